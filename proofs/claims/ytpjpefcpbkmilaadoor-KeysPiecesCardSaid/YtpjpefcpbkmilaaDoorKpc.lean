/-
 The table of the named keys. Conditions: none.
-/
import Derived.Test.YtpjpefcpbkmilaaDoorKpa
import Derived.Test.YtpjpefcpbkmilaaDoorMp
import Derived.Test.YtpjpefcpbkmilaaDoorStr2
namespace Go.Proofs.YtpjpefcpbkmilaaDoor
open Go.Lib
set_option maxRecDepth 100000
def tabE : List (Value × Value) := [(.string ⟨#[102, 49]⟩, .int .i64 2097153), (.string ⟨#[102, 50]⟩, .int .i64 2097154), (.string ⟨#[102, 51]⟩, .int .i64 2097155), (.string ⟨#[102, 52]⟩, .int .i64 2097156), (.string ⟨#[102, 53]⟩, .int .i64 2097157), (.string ⟨#[102, 54]⟩, .int .i64 2097158), (.string ⟨#[102, 55]⟩, .int .i64 2097159), (.string ⟨#[102, 56]⟩, .int .i64 2097160), (.string ⟨#[102, 57]⟩, .int .i64 2097161), (.string ⟨#[102, 49, 48]⟩, .int .i64 2097162), (.string ⟨#[102, 49, 49]⟩, .int .i64 2097163), (.string ⟨#[102, 49, 50]⟩, .int .i64 2097164), (.string ⟨#[117, 112]⟩, .int .i64 2097165), (.string ⟨#[100, 111, 119, 110]⟩, .int .i64 2097166), (.string ⟨#[108, 101, 102, 116]⟩, .int .i64 2097167), (.string ⟨#[114, 105, 103, 104, 116]⟩, .int .i64 2097168), (.string ⟨#[104, 111, 109, 101]⟩, .int .i64 2097169), (.string ⟨#[101, 110, 100]⟩, .int .i64 2097170), (.string ⟨#[112, 114, 105, 111, 114]⟩, .int .i64 2097171), (.string ⟨#[110, 101, 120, 116]⟩, .int .i64 2097172), (.string ⟨#[105, 110, 115, 101, 114, 116]⟩, .int .i64 2097173), (.string ⟨#[100, 101, 108, 101, 116, 101]⟩, .int .i64 2097174), (.string ⟨#[98, 97, 99, 107, 115, 112, 97, 99, 101]⟩, .int .i64 2097175), (.string ⟨#[114, 101, 116, 117, 114, 110]⟩, .int .i64 2097176), (.string ⟨#[116, 97, 98]⟩, .int .i64 2097177), (.string ⟨#[101, 115, 99, 97, 112, 101]⟩, .int .i64 2097178), (.string ⟨#[98, 97, 99, 107, 116, 97, 98]⟩, .int .i64 2097179)]
section
variable {G : Nat} {A : Abs} {σ : Mem} {F : Nat → Option Blk2} {L : List Ent}
set_option maxHeartbeats 16000000 in
theorem table_wc (H : Lies G A F σ L) : WC G Tryd.prog 54 #[] σ fun r σ' => ∃ b, r = .map (some b) ∧ Lies G A F σ' (.at_ b (.ents tabE 27) :: L) := by
 refine WC.enter (fn := Tryd.f54) Tryd.func54 rfl ?_
 refine W.rg [] fun TA => ?_
 refine W.seq (W.region ?_)
 refine RW.v ?_
 refine RW.nil ?_
 refine W.rg [] fun TA => ?_
 refine W.seq (W.region ?_)
 refine RW.mkM H ?_
 clear H; intro _ b1 _ H
 refine RW.v ?_
 refine RW.nil ?_
 refine W.rg [(1, .map (some b1))] fun TA => ?_
 refine W.seq ?_
 refine W.seq (W.region ?_)
 refine RW.cl ?_
 refine WC.enter (fn := Tryd.f48) Tryd.func48 rfl ?_
 refine W.rg [] fun TA => ?_
 refine W.seq (W.region ?_)
 refine RW.mk H (.row ⟨[.string ByteArray.empty, .string ByteArray.empty, .string ByteArray.empty, .string ByteArray.empty, .string ByteArray.empty, .string ByteArray.empty, .string ByteArray.empty, .string ByteArray.empty, .string ByteArray.empty, .string ByteArray.empty, .string ByteArray.empty, .string ByteArray.empty, .string ByteArray.empty, .string ByteArray.empty, .string ByteArray.empty, .string ByteArray.empty, .string ByteArray.empty, .string ByteArray.empty, .string ByteArray.empty, .string ByteArray.empty, .string ByteArray.empty, .string ByteArray.empty, .string ByteArray.empty, .string ByteArray.empty, .string ByteArray.empty, .string ByteArray.empty, .string ByteArray.empty], 72, false⟩) ?_
 clear H; intro _ b2 _ H
 refine RW.nil ?_
 refine W.rg [(0, .pointer (some ⟨b2, 0, none⟩))] fun TA => ?_
 refine W.seq (W.region ?_)
 refine RW.val (v := .agg #[.string ⟨#[102, 49]⟩, .string ⟨#[102, 50]⟩, .string ⟨#[102, 51]⟩, .string ⟨#[102, 52]⟩, .string ⟨#[102, 53]⟩, .string ⟨#[102, 54]⟩, .string ⟨#[102, 55]⟩, .string ⟨#[102, 56]⟩, .string ⟨#[102, 57]⟩, .string ⟨#[102, 49, 48]⟩, .string ⟨#[102, 49, 49]⟩, .string ⟨#[102, 49, 50]⟩, .string ⟨#[117, 112]⟩, .string ⟨#[100, 111, 119, 110]⟩, .string ⟨#[108, 101, 102, 116]⟩, .string ⟨#[114, 105, 103, 104, 116]⟩, .string ⟨#[104, 111, 109, 101]⟩, .string ⟨#[101, 110, 100]⟩, .string ⟨#[112, 114, 105, 111, 114]⟩, .string ⟨#[110, 101, 120, 116]⟩, .string ⟨#[105, 110, 115, 101, 114, 116]⟩, .string ⟨#[100, 101, 108, 101, 116, 101]⟩, .string ⟨#[98, 97, 99, 107, 115, 112, 97, 99, 101]⟩, .string ⟨#[114, 101, 116, 117, 114, 110]⟩, .string ⟨#[116, 97, 98]⟩, .string ⟨#[101, 115, 99, 97, 112, 101]⟩, .string ⟨#[98, 97, 99, 107, 116, 97, 98]⟩]) (by kernel_rfl) (by kernel_rfl) (by kernel_rfl) (by kernel_rfl) ?_
 refine RW.st H 0 [.string ⟨#[102, 49]⟩, .string ⟨#[102, 50]⟩, .string ⟨#[102, 51]⟩, .string ⟨#[102, 52]⟩, .string ⟨#[102, 53]⟩, .string ⟨#[102, 54]⟩, .string ⟨#[102, 55]⟩, .string ⟨#[102, 56]⟩, .string ⟨#[102, 57]⟩, .string ⟨#[102, 49, 48]⟩, .string ⟨#[102, 49, 49]⟩, .string ⟨#[102, 49, 50]⟩, .string ⟨#[117, 112]⟩, .string ⟨#[100, 111, 119, 110]⟩, .string ⟨#[108, 101, 102, 116]⟩, .string ⟨#[114, 105, 103, 104, 116]⟩, .string ⟨#[104, 111, 109, 101]⟩, .string ⟨#[101, 110, 100]⟩, .string ⟨#[112, 114, 105, 111, 114]⟩, .string ⟨#[110, 101, 120, 116]⟩, .string ⟨#[105, 110, 115, 101, 114, 116]⟩, .string ⟨#[100, 101, 108, 101, 116, 101]⟩, .string ⟨#[98, 97, 99, 107, 115, 112, 97, 99, 101]⟩, .string ⟨#[114, 101, 116, 117, 114, 110]⟩, .string ⟨#[116, 97, 98]⟩, .string ⟨#[101, 115, 99, 97, 112, 101]⟩, .string ⟨#[98, 97, 99, 107, 116, 97, 98]⟩] [.string ⟨#[102, 49]⟩, .string ⟨#[102, 50]⟩, .string ⟨#[102, 51]⟩, .string ⟨#[102, 52]⟩, .string ⟨#[102, 53]⟩, .string ⟨#[102, 54]⟩, .string ⟨#[102, 55]⟩, .string ⟨#[102, 56]⟩, .string ⟨#[102, 57]⟩, .string ⟨#[102, 49, 48]⟩, .string ⟨#[102, 49, 49]⟩, .string ⟨#[102, 49, 50]⟩, .string ⟨#[117, 112]⟩, .string ⟨#[100, 111, 119, 110]⟩, .string ⟨#[108, 101, 102, 116]⟩, .string ⟨#[114, 105, 103, 104, 116]⟩, .string ⟨#[104, 111, 109, 101]⟩, .string ⟨#[101, 110, 100]⟩, .string ⟨#[112, 114, 105, 111, 114]⟩, .string ⟨#[110, 101, 120, 116]⟩, .string ⟨#[105, 110, 115, 101, 114, 116]⟩, .string ⟨#[100, 101, 108, 101, 116, 101]⟩, .string ⟨#[98, 97, 99, 107, 115, 112, 97, 99, 101]⟩, .string ⟨#[114, 101, 116, 117, 114, 110]⟩, .string ⟨#[116, 97, 98]⟩, .string ⟨#[101, 115, 99, 97, 112, 101]⟩, .string ⟨#[98, 97, 99, 107, 116, 97, 98]⟩] ?_
 clear H; intro _ _ H; dsimp only [setL, delL] at H
 refine RW.nil ?_
 refine W.ret ?_
 refine endG (by rfl) (by exact resL_cell rfl (H.get 0 rfl) (by rw [uT_eq]; exact Tryd.underlying72) (by kernel_rfl) rfl rfl rfl) ?_
 refine RW.v ?_
 refine RW.nil ?_
 replace H := (H.del 0)
 dsimp only [setL, delL] at H
 refine W.rg [(1, .map (some b1)), (5, .agg #[.string ⟨#[102, 49]⟩, .string ⟨#[102, 50]⟩, .string ⟨#[102, 51]⟩, .string ⟨#[102, 52]⟩, .string ⟨#[102, 53]⟩, .string ⟨#[102, 54]⟩, .string ⟨#[102, 55]⟩, .string ⟨#[102, 56]⟩, .string ⟨#[102, 57]⟩, .string ⟨#[102, 49, 48]⟩, .string ⟨#[102, 49, 49]⟩, .string ⟨#[102, 49, 50]⟩, .string ⟨#[117, 112]⟩, .string ⟨#[100, 111, 119, 110]⟩, .string ⟨#[108, 101, 102, 116]⟩, .string ⟨#[114, 105, 103, 104, 116]⟩, .string ⟨#[104, 111, 109, 101]⟩, .string ⟨#[101, 110, 100]⟩, .string ⟨#[112, 114, 105, 111, 114]⟩, .string ⟨#[110, 101, 120, 116]⟩, .string ⟨#[105, 110, 115, 101, 114, 116]⟩, .string ⟨#[100, 101, 108, 101, 116, 101]⟩, .string ⟨#[98, 97, 99, 107, 115, 112, 97, 99, 101]⟩, .string ⟨#[114, 101, 116, 117, 114, 110]⟩, .string ⟨#[116, 97, 98]⟩, .string ⟨#[101, 115, 99, 97, 112, 101]⟩, .string ⟨#[98, 97, 99, 107, 116, 97, 98]⟩]), (6, .int .i64 0)] fun TA => ?_
 refine W.block ?_
 refine W.unroll (WL.once ?_)
 refine W.seq (W.region ?_)
 refine RW.v ?_
 refine RW.nil ?_
 refine W.rg [(1, .map (some b1)), (5, .agg #[.string ⟨#[102, 49]⟩, .string ⟨#[102, 50]⟩, .string ⟨#[102, 51]⟩, .string ⟨#[102, 52]⟩, .string ⟨#[102, 53]⟩, .string ⟨#[102, 54]⟩, .string ⟨#[102, 55]⟩, .string ⟨#[102, 56]⟩, .string ⟨#[102, 57]⟩, .string ⟨#[102, 49, 48]⟩, .string ⟨#[102, 49, 49]⟩, .string ⟨#[102, 49, 50]⟩, .string ⟨#[117, 112]⟩, .string ⟨#[100, 111, 119, 110]⟩, .string ⟨#[108, 101, 102, 116]⟩, .string ⟨#[114, 105, 103, 104, 116]⟩, .string ⟨#[104, 111, 109, 101]⟩, .string ⟨#[101, 110, 100]⟩, .string ⟨#[112, 114, 105, 111, 114]⟩, .string ⟨#[110, 101, 120, 116]⟩, .string ⟨#[105, 110, 115, 101, 114, 116]⟩, .string ⟨#[100, 101, 108, 101, 116, 101]⟩, .string ⟨#[98, 97, 99, 107, 115, 112, 97, 99, 101]⟩, .string ⟨#[114, 101, 116, 117, 114, 110]⟩, .string ⟨#[116, 97, 98]⟩, .string ⟨#[101, 115, 99, 97, 112, 101]⟩, .string ⟨#[98, 97, 99, 107, 116, 97, 98]⟩]), (6, .int .i64 0), (7, .bool true)] fun TA => ?_
 refine W.seq ?_
 refine W.c1 ?_
 refine W.skip ?_
 refine W.seq ?_
 refine W.block ?_
 refine W.seq (W.region ?_)
 refine RW.v ?_
 refine RW.val (v := .string ⟨#[102, 49]⟩) (by kernel_rfl) (by kernel_rfl) (by kernel_rfl) (by kernel_rfl) ?_
 iterate 2 refine RW.v ?_
 refine RW.nil ?_
 refine W.rg [(1, .map (some b1)), (2, .int .i64 0), (3, .string ⟨#[102, 49]⟩), (5, .agg #[.string ⟨#[102, 49]⟩, .string ⟨#[102, 50]⟩, .string ⟨#[102, 51]⟩, .string ⟨#[102, 52]⟩, .string ⟨#[102, 53]⟩, .string ⟨#[102, 54]⟩, .string ⟨#[102, 55]⟩, .string ⟨#[102, 56]⟩, .string ⟨#[102, 57]⟩, .string ⟨#[102, 49, 48]⟩, .string ⟨#[102, 49, 49]⟩, .string ⟨#[102, 49, 50]⟩, .string ⟨#[117, 112]⟩, .string ⟨#[100, 111, 119, 110]⟩, .string ⟨#[108, 101, 102, 116]⟩, .string ⟨#[114, 105, 103, 104, 116]⟩, .string ⟨#[104, 111, 109, 101]⟩, .string ⟨#[101, 110, 100]⟩, .string ⟨#[112, 114, 105, 111, 114]⟩, .string ⟨#[110, 101, 120, 116]⟩, .string ⟨#[105, 110, 115, 101, 114, 116]⟩, .string ⟨#[100, 101, 108, 101, 116, 101]⟩, .string ⟨#[98, 97, 99, 107, 115, 112, 97, 99, 101]⟩, .string ⟨#[114, 101, 116, 117, 114, 110]⟩, .string ⟨#[116, 97, 98]⟩, .string ⟨#[101, 115, 99, 97, 112, 101]⟩, .string ⟨#[98, 97, 99, 107, 116, 97, 98]⟩]), (6, .int .i64 0)] fun TA => ?_
 refine W.region ?_
 iterate 4 refine RW.v ?_
 refine RW.upL H 0 [(.string ⟨#[102, 49]⟩, .int .i64 2097153)] 1 ?_
 clear H; intro _ _ H; dsimp only [setL, delL] at H
 refine RW.nil ?_
 refine blkQ_normal ?_
 refine W.rg [(1, .map (some b1)), (5, .agg #[.string ⟨#[102, 49]⟩, .string ⟨#[102, 50]⟩, .string ⟨#[102, 51]⟩, .string ⟨#[102, 52]⟩, .string ⟨#[102, 53]⟩, .string ⟨#[102, 54]⟩, .string ⟨#[102, 55]⟩, .string ⟨#[102, 56]⟩, .string ⟨#[102, 57]⟩, .string ⟨#[102, 49, 48]⟩, .string ⟨#[102, 49, 49]⟩, .string ⟨#[102, 49, 50]⟩, .string ⟨#[117, 112]⟩, .string ⟨#[100, 111, 119, 110]⟩, .string ⟨#[108, 101, 102, 116]⟩, .string ⟨#[114, 105, 103, 104, 116]⟩, .string ⟨#[104, 111, 109, 101]⟩, .string ⟨#[101, 110, 100]⟩, .string ⟨#[112, 114, 105, 111, 114]⟩, .string ⟨#[110, 101, 120, 116]⟩, .string ⟨#[105, 110, 115, 101, 114, 116]⟩, .string ⟨#[100, 101, 108, 101, 116, 101]⟩, .string ⟨#[98, 97, 99, 107, 115, 112, 97, 99, 101]⟩, .string ⟨#[114, 101, 116, 117, 114, 110]⟩, .string ⟨#[116, 97, 98]⟩, .string ⟨#[101, 115, 99, 97, 112, 101]⟩, .string ⟨#[98, 97, 99, 107, 116, 97, 98]⟩]), (6, .int .i64 0)] fun TA => ?_
 refine W.region ?_
 iterate 2 refine RW.v ?_
 refine RW.nil ?_
 refine WL.once ?_
 refine W.rg [(1, .map (some b1)), (5, .agg #[.string ⟨#[102, 49]⟩, .string ⟨#[102, 50]⟩, .string ⟨#[102, 51]⟩, .string ⟨#[102, 52]⟩, .string ⟨#[102, 53]⟩, .string ⟨#[102, 54]⟩, .string ⟨#[102, 55]⟩, .string ⟨#[102, 56]⟩, .string ⟨#[102, 57]⟩, .string ⟨#[102, 49, 48]⟩, .string ⟨#[102, 49, 49]⟩, .string ⟨#[102, 49, 50]⟩, .string ⟨#[117, 112]⟩, .string ⟨#[100, 111, 119, 110]⟩, .string ⟨#[108, 101, 102, 116]⟩, .string ⟨#[114, 105, 103, 104, 116]⟩, .string ⟨#[104, 111, 109, 101]⟩, .string ⟨#[101, 110, 100]⟩, .string ⟨#[112, 114, 105, 111, 114]⟩, .string ⟨#[110, 101, 120, 116]⟩, .string ⟨#[105, 110, 115, 101, 114, 116]⟩, .string ⟨#[100, 101, 108, 101, 116, 101]⟩, .string ⟨#[98, 97, 99, 107, 115, 112, 97, 99, 101]⟩, .string ⟨#[114, 101, 116, 117, 114, 110]⟩, .string ⟨#[116, 97, 98]⟩, .string ⟨#[101, 115, 99, 97, 112, 101]⟩, .string ⟨#[98, 97, 99, 107, 116, 97, 98]⟩]), (6, .int .i64 1)] fun TA => ?_
 refine W.seq (W.region ?_)
 refine RW.v ?_
 refine RW.nil ?_
 refine W.rg [(1, .map (some b1)), (5, .agg #[.string ⟨#[102, 49]⟩, .string ⟨#[102, 50]⟩, .string ⟨#[102, 51]⟩, .string ⟨#[102, 52]⟩, .string ⟨#[102, 53]⟩, .string ⟨#[102, 54]⟩, .string ⟨#[102, 55]⟩, .string ⟨#[102, 56]⟩, .string ⟨#[102, 57]⟩, .string ⟨#[102, 49, 48]⟩, .string ⟨#[102, 49, 49]⟩, .string ⟨#[102, 49, 50]⟩, .string ⟨#[117, 112]⟩, .string ⟨#[100, 111, 119, 110]⟩, .string ⟨#[108, 101, 102, 116]⟩, .string ⟨#[114, 105, 103, 104, 116]⟩, .string ⟨#[104, 111, 109, 101]⟩, .string ⟨#[101, 110, 100]⟩, .string ⟨#[112, 114, 105, 111, 114]⟩, .string ⟨#[110, 101, 120, 116]⟩, .string ⟨#[105, 110, 115, 101, 114, 116]⟩, .string ⟨#[100, 101, 108, 101, 116, 101]⟩, .string ⟨#[98, 97, 99, 107, 115, 112, 97, 99, 101]⟩, .string ⟨#[114, 101, 116, 117, 114, 110]⟩, .string ⟨#[116, 97, 98]⟩, .string ⟨#[101, 115, 99, 97, 112, 101]⟩, .string ⟨#[98, 97, 99, 107, 116, 97, 98]⟩]), (6, .int .i64 1), (7, .bool true)] fun TA => ?_
 refine W.seq ?_
 refine W.c1 ?_
 refine W.skip ?_
 refine W.seq ?_
 refine W.block ?_
 refine W.seq (W.region ?_)
 refine RW.v ?_
 refine RW.val (v := .string ⟨#[102, 50]⟩) (by kernel_rfl) (by kernel_rfl) (by kernel_rfl) (by kernel_rfl) ?_
 iterate 2 refine RW.v ?_
 refine RW.nil ?_
 refine W.rg [(1, .map (some b1)), (2, .int .i64 1), (3, .string ⟨#[102, 50]⟩), (5, .agg #[.string ⟨#[102, 49]⟩, .string ⟨#[102, 50]⟩, .string ⟨#[102, 51]⟩, .string ⟨#[102, 52]⟩, .string ⟨#[102, 53]⟩, .string ⟨#[102, 54]⟩, .string ⟨#[102, 55]⟩, .string ⟨#[102, 56]⟩, .string ⟨#[102, 57]⟩, .string ⟨#[102, 49, 48]⟩, .string ⟨#[102, 49, 49]⟩, .string ⟨#[102, 49, 50]⟩, .string ⟨#[117, 112]⟩, .string ⟨#[100, 111, 119, 110]⟩, .string ⟨#[108, 101, 102, 116]⟩, .string ⟨#[114, 105, 103, 104, 116]⟩, .string ⟨#[104, 111, 109, 101]⟩, .string ⟨#[101, 110, 100]⟩, .string ⟨#[112, 114, 105, 111, 114]⟩, .string ⟨#[110, 101, 120, 116]⟩, .string ⟨#[105, 110, 115, 101, 114, 116]⟩, .string ⟨#[100, 101, 108, 101, 116, 101]⟩, .string ⟨#[98, 97, 99, 107, 115, 112, 97, 99, 101]⟩, .string ⟨#[114, 101, 116, 117, 114, 110]⟩, .string ⟨#[116, 97, 98]⟩, .string ⟨#[101, 115, 99, 97, 112, 101]⟩, .string ⟨#[98, 97, 99, 107, 116, 97, 98]⟩]), (6, .int .i64 1)] fun TA => ?_
 refine W.region ?_
 iterate 4 refine RW.v ?_
 refine RW.upL H 0 [(.string ⟨#[102, 49]⟩, .int .i64 2097153), (.string ⟨#[102, 50]⟩, .int .i64 2097154)] 2 ?_
 clear H; intro _ _ H; dsimp only [setL, delL] at H
 refine RW.nil ?_
 refine blkQ_normal ?_
 refine W.rg [(1, .map (some b1)), (5, .agg #[.string ⟨#[102, 49]⟩, .string ⟨#[102, 50]⟩, .string ⟨#[102, 51]⟩, .string ⟨#[102, 52]⟩, .string ⟨#[102, 53]⟩, .string ⟨#[102, 54]⟩, .string ⟨#[102, 55]⟩, .string ⟨#[102, 56]⟩, .string ⟨#[102, 57]⟩, .string ⟨#[102, 49, 48]⟩, .string ⟨#[102, 49, 49]⟩, .string ⟨#[102, 49, 50]⟩, .string ⟨#[117, 112]⟩, .string ⟨#[100, 111, 119, 110]⟩, .string ⟨#[108, 101, 102, 116]⟩, .string ⟨#[114, 105, 103, 104, 116]⟩, .string ⟨#[104, 111, 109, 101]⟩, .string ⟨#[101, 110, 100]⟩, .string ⟨#[112, 114, 105, 111, 114]⟩, .string ⟨#[110, 101, 120, 116]⟩, .string ⟨#[105, 110, 115, 101, 114, 116]⟩, .string ⟨#[100, 101, 108, 101, 116, 101]⟩, .string ⟨#[98, 97, 99, 107, 115, 112, 97, 99, 101]⟩, .string ⟨#[114, 101, 116, 117, 114, 110]⟩, .string ⟨#[116, 97, 98]⟩, .string ⟨#[101, 115, 99, 97, 112, 101]⟩, .string ⟨#[98, 97, 99, 107, 116, 97, 98]⟩]), (6, .int .i64 1)] fun TA => ?_
 refine W.region ?_
 iterate 2 refine RW.v ?_
 refine RW.nil ?_
 refine WL.once ?_
 refine W.rg [(1, .map (some b1)), (5, .agg #[.string ⟨#[102, 49]⟩, .string ⟨#[102, 50]⟩, .string ⟨#[102, 51]⟩, .string ⟨#[102, 52]⟩, .string ⟨#[102, 53]⟩, .string ⟨#[102, 54]⟩, .string ⟨#[102, 55]⟩, .string ⟨#[102, 56]⟩, .string ⟨#[102, 57]⟩, .string ⟨#[102, 49, 48]⟩, .string ⟨#[102, 49, 49]⟩, .string ⟨#[102, 49, 50]⟩, .string ⟨#[117, 112]⟩, .string ⟨#[100, 111, 119, 110]⟩, .string ⟨#[108, 101, 102, 116]⟩, .string ⟨#[114, 105, 103, 104, 116]⟩, .string ⟨#[104, 111, 109, 101]⟩, .string ⟨#[101, 110, 100]⟩, .string ⟨#[112, 114, 105, 111, 114]⟩, .string ⟨#[110, 101, 120, 116]⟩, .string ⟨#[105, 110, 115, 101, 114, 116]⟩, .string ⟨#[100, 101, 108, 101, 116, 101]⟩, .string ⟨#[98, 97, 99, 107, 115, 112, 97, 99, 101]⟩, .string ⟨#[114, 101, 116, 117, 114, 110]⟩, .string ⟨#[116, 97, 98]⟩, .string ⟨#[101, 115, 99, 97, 112, 101]⟩, .string ⟨#[98, 97, 99, 107, 116, 97, 98]⟩]), (6, .int .i64 2)] fun TA => ?_
 refine W.seq (W.region ?_)
 refine RW.v ?_
 refine RW.nil ?_
 refine W.rg [(1, .map (some b1)), (5, .agg #[.string ⟨#[102, 49]⟩, .string ⟨#[102, 50]⟩, .string ⟨#[102, 51]⟩, .string ⟨#[102, 52]⟩, .string ⟨#[102, 53]⟩, .string ⟨#[102, 54]⟩, .string ⟨#[102, 55]⟩, .string ⟨#[102, 56]⟩, .string ⟨#[102, 57]⟩, .string ⟨#[102, 49, 48]⟩, .string ⟨#[102, 49, 49]⟩, .string ⟨#[102, 49, 50]⟩, .string ⟨#[117, 112]⟩, .string ⟨#[100, 111, 119, 110]⟩, .string ⟨#[108, 101, 102, 116]⟩, .string ⟨#[114, 105, 103, 104, 116]⟩, .string ⟨#[104, 111, 109, 101]⟩, .string ⟨#[101, 110, 100]⟩, .string ⟨#[112, 114, 105, 111, 114]⟩, .string ⟨#[110, 101, 120, 116]⟩, .string ⟨#[105, 110, 115, 101, 114, 116]⟩, .string ⟨#[100, 101, 108, 101, 116, 101]⟩, .string ⟨#[98, 97, 99, 107, 115, 112, 97, 99, 101]⟩, .string ⟨#[114, 101, 116, 117, 114, 110]⟩, .string ⟨#[116, 97, 98]⟩, .string ⟨#[101, 115, 99, 97, 112, 101]⟩, .string ⟨#[98, 97, 99, 107, 116, 97, 98]⟩]), (6, .int .i64 2), (7, .bool true)] fun TA => ?_
 refine W.seq ?_
 refine W.c1 ?_
 refine W.skip ?_
 refine W.seq ?_
 refine W.block ?_
 refine W.seq (W.region ?_)
 refine RW.v ?_
 refine RW.val (v := .string ⟨#[102, 51]⟩) (by kernel_rfl) (by kernel_rfl) (by kernel_rfl) (by kernel_rfl) ?_
 iterate 2 refine RW.v ?_
 refine RW.nil ?_
 refine W.rg [(1, .map (some b1)), (2, .int .i64 2), (3, .string ⟨#[102, 51]⟩), (5, .agg #[.string ⟨#[102, 49]⟩, .string ⟨#[102, 50]⟩, .string ⟨#[102, 51]⟩, .string ⟨#[102, 52]⟩, .string ⟨#[102, 53]⟩, .string ⟨#[102, 54]⟩, .string ⟨#[102, 55]⟩, .string ⟨#[102, 56]⟩, .string ⟨#[102, 57]⟩, .string ⟨#[102, 49, 48]⟩, .string ⟨#[102, 49, 49]⟩, .string ⟨#[102, 49, 50]⟩, .string ⟨#[117, 112]⟩, .string ⟨#[100, 111, 119, 110]⟩, .string ⟨#[108, 101, 102, 116]⟩, .string ⟨#[114, 105, 103, 104, 116]⟩, .string ⟨#[104, 111, 109, 101]⟩, .string ⟨#[101, 110, 100]⟩, .string ⟨#[112, 114, 105, 111, 114]⟩, .string ⟨#[110, 101, 120, 116]⟩, .string ⟨#[105, 110, 115, 101, 114, 116]⟩, .string ⟨#[100, 101, 108, 101, 116, 101]⟩, .string ⟨#[98, 97, 99, 107, 115, 112, 97, 99, 101]⟩, .string ⟨#[114, 101, 116, 117, 114, 110]⟩, .string ⟨#[116, 97, 98]⟩, .string ⟨#[101, 115, 99, 97, 112, 101]⟩, .string ⟨#[98, 97, 99, 107, 116, 97, 98]⟩]), (6, .int .i64 2)] fun TA => ?_
 refine W.region ?_
 iterate 4 refine RW.v ?_
 refine RW.upL H 0 [(.string ⟨#[102, 49]⟩, .int .i64 2097153), (.string ⟨#[102, 50]⟩, .int .i64 2097154), (.string ⟨#[102, 51]⟩, .int .i64 2097155)] 3 ?_
 clear H; intro _ _ H; dsimp only [setL, delL] at H
 refine RW.nil ?_
 refine blkQ_normal ?_
 refine W.rg [(1, .map (some b1)), (5, .agg #[.string ⟨#[102, 49]⟩, .string ⟨#[102, 50]⟩, .string ⟨#[102, 51]⟩, .string ⟨#[102, 52]⟩, .string ⟨#[102, 53]⟩, .string ⟨#[102, 54]⟩, .string ⟨#[102, 55]⟩, .string ⟨#[102, 56]⟩, .string ⟨#[102, 57]⟩, .string ⟨#[102, 49, 48]⟩, .string ⟨#[102, 49, 49]⟩, .string ⟨#[102, 49, 50]⟩, .string ⟨#[117, 112]⟩, .string ⟨#[100, 111, 119, 110]⟩, .string ⟨#[108, 101, 102, 116]⟩, .string ⟨#[114, 105, 103, 104, 116]⟩, .string ⟨#[104, 111, 109, 101]⟩, .string ⟨#[101, 110, 100]⟩, .string ⟨#[112, 114, 105, 111, 114]⟩, .string ⟨#[110, 101, 120, 116]⟩, .string ⟨#[105, 110, 115, 101, 114, 116]⟩, .string ⟨#[100, 101, 108, 101, 116, 101]⟩, .string ⟨#[98, 97, 99, 107, 115, 112, 97, 99, 101]⟩, .string ⟨#[114, 101, 116, 117, 114, 110]⟩, .string ⟨#[116, 97, 98]⟩, .string ⟨#[101, 115, 99, 97, 112, 101]⟩, .string ⟨#[98, 97, 99, 107, 116, 97, 98]⟩]), (6, .int .i64 2)] fun TA => ?_
 refine W.region ?_
 iterate 2 refine RW.v ?_
 refine RW.nil ?_
 refine WL.once ?_
 refine W.rg [(1, .map (some b1)), (5, .agg #[.string ⟨#[102, 49]⟩, .string ⟨#[102, 50]⟩, .string ⟨#[102, 51]⟩, .string ⟨#[102, 52]⟩, .string ⟨#[102, 53]⟩, .string ⟨#[102, 54]⟩, .string ⟨#[102, 55]⟩, .string ⟨#[102, 56]⟩, .string ⟨#[102, 57]⟩, .string ⟨#[102, 49, 48]⟩, .string ⟨#[102, 49, 49]⟩, .string ⟨#[102, 49, 50]⟩, .string ⟨#[117, 112]⟩, .string ⟨#[100, 111, 119, 110]⟩, .string ⟨#[108, 101, 102, 116]⟩, .string ⟨#[114, 105, 103, 104, 116]⟩, .string ⟨#[104, 111, 109, 101]⟩, .string ⟨#[101, 110, 100]⟩, .string ⟨#[112, 114, 105, 111, 114]⟩, .string ⟨#[110, 101, 120, 116]⟩, .string ⟨#[105, 110, 115, 101, 114, 116]⟩, .string ⟨#[100, 101, 108, 101, 116, 101]⟩, .string ⟨#[98, 97, 99, 107, 115, 112, 97, 99, 101]⟩, .string ⟨#[114, 101, 116, 117, 114, 110]⟩, .string ⟨#[116, 97, 98]⟩, .string ⟨#[101, 115, 99, 97, 112, 101]⟩, .string ⟨#[98, 97, 99, 107, 116, 97, 98]⟩]), (6, .int .i64 3)] fun TA => ?_
 refine W.seq (W.region ?_)
 refine RW.v ?_
 refine RW.nil ?_
 refine W.rg [(1, .map (some b1)), (5, .agg #[.string ⟨#[102, 49]⟩, .string ⟨#[102, 50]⟩, .string ⟨#[102, 51]⟩, .string ⟨#[102, 52]⟩, .string ⟨#[102, 53]⟩, .string ⟨#[102, 54]⟩, .string ⟨#[102, 55]⟩, .string ⟨#[102, 56]⟩, .string ⟨#[102, 57]⟩, .string ⟨#[102, 49, 48]⟩, .string ⟨#[102, 49, 49]⟩, .string ⟨#[102, 49, 50]⟩, .string ⟨#[117, 112]⟩, .string ⟨#[100, 111, 119, 110]⟩, .string ⟨#[108, 101, 102, 116]⟩, .string ⟨#[114, 105, 103, 104, 116]⟩, .string ⟨#[104, 111, 109, 101]⟩, .string ⟨#[101, 110, 100]⟩, .string ⟨#[112, 114, 105, 111, 114]⟩, .string ⟨#[110, 101, 120, 116]⟩, .string ⟨#[105, 110, 115, 101, 114, 116]⟩, .string ⟨#[100, 101, 108, 101, 116, 101]⟩, .string ⟨#[98, 97, 99, 107, 115, 112, 97, 99, 101]⟩, .string ⟨#[114, 101, 116, 117, 114, 110]⟩, .string ⟨#[116, 97, 98]⟩, .string ⟨#[101, 115, 99, 97, 112, 101]⟩, .string ⟨#[98, 97, 99, 107, 116, 97, 98]⟩]), (6, .int .i64 3), (7, .bool true)] fun TA => ?_
 refine W.seq ?_
 refine W.c1 ?_
 refine W.skip ?_
 refine W.seq ?_
 refine W.block ?_
 refine W.seq (W.region ?_)
 refine RW.v ?_
 refine RW.val (v := .string ⟨#[102, 52]⟩) (by kernel_rfl) (by kernel_rfl) (by kernel_rfl) (by kernel_rfl) ?_
 iterate 2 refine RW.v ?_
 refine RW.nil ?_
 refine W.rg [(1, .map (some b1)), (2, .int .i64 3), (3, .string ⟨#[102, 52]⟩), (5, .agg #[.string ⟨#[102, 49]⟩, .string ⟨#[102, 50]⟩, .string ⟨#[102, 51]⟩, .string ⟨#[102, 52]⟩, .string ⟨#[102, 53]⟩, .string ⟨#[102, 54]⟩, .string ⟨#[102, 55]⟩, .string ⟨#[102, 56]⟩, .string ⟨#[102, 57]⟩, .string ⟨#[102, 49, 48]⟩, .string ⟨#[102, 49, 49]⟩, .string ⟨#[102, 49, 50]⟩, .string ⟨#[117, 112]⟩, .string ⟨#[100, 111, 119, 110]⟩, .string ⟨#[108, 101, 102, 116]⟩, .string ⟨#[114, 105, 103, 104, 116]⟩, .string ⟨#[104, 111, 109, 101]⟩, .string ⟨#[101, 110, 100]⟩, .string ⟨#[112, 114, 105, 111, 114]⟩, .string ⟨#[110, 101, 120, 116]⟩, .string ⟨#[105, 110, 115, 101, 114, 116]⟩, .string ⟨#[100, 101, 108, 101, 116, 101]⟩, .string ⟨#[98, 97, 99, 107, 115, 112, 97, 99, 101]⟩, .string ⟨#[114, 101, 116, 117, 114, 110]⟩, .string ⟨#[116, 97, 98]⟩, .string ⟨#[101, 115, 99, 97, 112, 101]⟩, .string ⟨#[98, 97, 99, 107, 116, 97, 98]⟩]), (6, .int .i64 3)] fun TA => ?_
 refine W.region ?_
 iterate 4 refine RW.v ?_
 refine RW.upL H 0 [(.string ⟨#[102, 49]⟩, .int .i64 2097153), (.string ⟨#[102, 50]⟩, .int .i64 2097154), (.string ⟨#[102, 51]⟩, .int .i64 2097155), (.string ⟨#[102, 52]⟩, .int .i64 2097156)] 4 ?_
 clear H; intro _ _ H; dsimp only [setL, delL] at H
 refine RW.nil ?_
 refine blkQ_normal ?_
 refine W.rg [(1, .map (some b1)), (5, .agg #[.string ⟨#[102, 49]⟩, .string ⟨#[102, 50]⟩, .string ⟨#[102, 51]⟩, .string ⟨#[102, 52]⟩, .string ⟨#[102, 53]⟩, .string ⟨#[102, 54]⟩, .string ⟨#[102, 55]⟩, .string ⟨#[102, 56]⟩, .string ⟨#[102, 57]⟩, .string ⟨#[102, 49, 48]⟩, .string ⟨#[102, 49, 49]⟩, .string ⟨#[102, 49, 50]⟩, .string ⟨#[117, 112]⟩, .string ⟨#[100, 111, 119, 110]⟩, .string ⟨#[108, 101, 102, 116]⟩, .string ⟨#[114, 105, 103, 104, 116]⟩, .string ⟨#[104, 111, 109, 101]⟩, .string ⟨#[101, 110, 100]⟩, .string ⟨#[112, 114, 105, 111, 114]⟩, .string ⟨#[110, 101, 120, 116]⟩, .string ⟨#[105, 110, 115, 101, 114, 116]⟩, .string ⟨#[100, 101, 108, 101, 116, 101]⟩, .string ⟨#[98, 97, 99, 107, 115, 112, 97, 99, 101]⟩, .string ⟨#[114, 101, 116, 117, 114, 110]⟩, .string ⟨#[116, 97, 98]⟩, .string ⟨#[101, 115, 99, 97, 112, 101]⟩, .string ⟨#[98, 97, 99, 107, 116, 97, 98]⟩]), (6, .int .i64 3)] fun TA => ?_
 refine W.region ?_
 iterate 2 refine RW.v ?_
 refine RW.nil ?_
 refine WL.once ?_
 refine W.rg [(1, .map (some b1)), (5, .agg #[.string ⟨#[102, 49]⟩, .string ⟨#[102, 50]⟩, .string ⟨#[102, 51]⟩, .string ⟨#[102, 52]⟩, .string ⟨#[102, 53]⟩, .string ⟨#[102, 54]⟩, .string ⟨#[102, 55]⟩, .string ⟨#[102, 56]⟩, .string ⟨#[102, 57]⟩, .string ⟨#[102, 49, 48]⟩, .string ⟨#[102, 49, 49]⟩, .string ⟨#[102, 49, 50]⟩, .string ⟨#[117, 112]⟩, .string ⟨#[100, 111, 119, 110]⟩, .string ⟨#[108, 101, 102, 116]⟩, .string ⟨#[114, 105, 103, 104, 116]⟩, .string ⟨#[104, 111, 109, 101]⟩, .string ⟨#[101, 110, 100]⟩, .string ⟨#[112, 114, 105, 111, 114]⟩, .string ⟨#[110, 101, 120, 116]⟩, .string ⟨#[105, 110, 115, 101, 114, 116]⟩, .string ⟨#[100, 101, 108, 101, 116, 101]⟩, .string ⟨#[98, 97, 99, 107, 115, 112, 97, 99, 101]⟩, .string ⟨#[114, 101, 116, 117, 114, 110]⟩, .string ⟨#[116, 97, 98]⟩, .string ⟨#[101, 115, 99, 97, 112, 101]⟩, .string ⟨#[98, 97, 99, 107, 116, 97, 98]⟩]), (6, .int .i64 4)] fun TA => ?_
 refine W.seq (W.region ?_)
 refine RW.v ?_
 refine RW.nil ?_
 refine W.rg [(1, .map (some b1)), (5, .agg #[.string ⟨#[102, 49]⟩, .string ⟨#[102, 50]⟩, .string ⟨#[102, 51]⟩, .string ⟨#[102, 52]⟩, .string ⟨#[102, 53]⟩, .string ⟨#[102, 54]⟩, .string ⟨#[102, 55]⟩, .string ⟨#[102, 56]⟩, .string ⟨#[102, 57]⟩, .string ⟨#[102, 49, 48]⟩, .string ⟨#[102, 49, 49]⟩, .string ⟨#[102, 49, 50]⟩, .string ⟨#[117, 112]⟩, .string ⟨#[100, 111, 119, 110]⟩, .string ⟨#[108, 101, 102, 116]⟩, .string ⟨#[114, 105, 103, 104, 116]⟩, .string ⟨#[104, 111, 109, 101]⟩, .string ⟨#[101, 110, 100]⟩, .string ⟨#[112, 114, 105, 111, 114]⟩, .string ⟨#[110, 101, 120, 116]⟩, .string ⟨#[105, 110, 115, 101, 114, 116]⟩, .string ⟨#[100, 101, 108, 101, 116, 101]⟩, .string ⟨#[98, 97, 99, 107, 115, 112, 97, 99, 101]⟩, .string ⟨#[114, 101, 116, 117, 114, 110]⟩, .string ⟨#[116, 97, 98]⟩, .string ⟨#[101, 115, 99, 97, 112, 101]⟩, .string ⟨#[98, 97, 99, 107, 116, 97, 98]⟩]), (6, .int .i64 4), (7, .bool true)] fun TA => ?_
 refine W.seq ?_
 refine W.c1 ?_
 refine W.skip ?_
 refine W.seq ?_
 refine W.block ?_
 refine W.seq (W.region ?_)
 refine RW.v ?_
 refine RW.val (v := .string ⟨#[102, 53]⟩) (by kernel_rfl) (by kernel_rfl) (by kernel_rfl) (by kernel_rfl) ?_
 iterate 2 refine RW.v ?_
 refine RW.nil ?_
 refine W.rg [(1, .map (some b1)), (2, .int .i64 4), (3, .string ⟨#[102, 53]⟩), (5, .agg #[.string ⟨#[102, 49]⟩, .string ⟨#[102, 50]⟩, .string ⟨#[102, 51]⟩, .string ⟨#[102, 52]⟩, .string ⟨#[102, 53]⟩, .string ⟨#[102, 54]⟩, .string ⟨#[102, 55]⟩, .string ⟨#[102, 56]⟩, .string ⟨#[102, 57]⟩, .string ⟨#[102, 49, 48]⟩, .string ⟨#[102, 49, 49]⟩, .string ⟨#[102, 49, 50]⟩, .string ⟨#[117, 112]⟩, .string ⟨#[100, 111, 119, 110]⟩, .string ⟨#[108, 101, 102, 116]⟩, .string ⟨#[114, 105, 103, 104, 116]⟩, .string ⟨#[104, 111, 109, 101]⟩, .string ⟨#[101, 110, 100]⟩, .string ⟨#[112, 114, 105, 111, 114]⟩, .string ⟨#[110, 101, 120, 116]⟩, .string ⟨#[105, 110, 115, 101, 114, 116]⟩, .string ⟨#[100, 101, 108, 101, 116, 101]⟩, .string ⟨#[98, 97, 99, 107, 115, 112, 97, 99, 101]⟩, .string ⟨#[114, 101, 116, 117, 114, 110]⟩, .string ⟨#[116, 97, 98]⟩, .string ⟨#[101, 115, 99, 97, 112, 101]⟩, .string ⟨#[98, 97, 99, 107, 116, 97, 98]⟩]), (6, .int .i64 4)] fun TA => ?_
 refine W.region ?_
 iterate 4 refine RW.v ?_
 refine RW.upL H 0 [(.string ⟨#[102, 49]⟩, .int .i64 2097153), (.string ⟨#[102, 50]⟩, .int .i64 2097154), (.string ⟨#[102, 51]⟩, .int .i64 2097155), (.string ⟨#[102, 52]⟩, .int .i64 2097156), (.string ⟨#[102, 53]⟩, .int .i64 2097157)] 5 ?_
 clear H; intro _ _ H; dsimp only [setL, delL] at H
 refine RW.nil ?_
 refine blkQ_normal ?_
 refine W.rg [(1, .map (some b1)), (5, .agg #[.string ⟨#[102, 49]⟩, .string ⟨#[102, 50]⟩, .string ⟨#[102, 51]⟩, .string ⟨#[102, 52]⟩, .string ⟨#[102, 53]⟩, .string ⟨#[102, 54]⟩, .string ⟨#[102, 55]⟩, .string ⟨#[102, 56]⟩, .string ⟨#[102, 57]⟩, .string ⟨#[102, 49, 48]⟩, .string ⟨#[102, 49, 49]⟩, .string ⟨#[102, 49, 50]⟩, .string ⟨#[117, 112]⟩, .string ⟨#[100, 111, 119, 110]⟩, .string ⟨#[108, 101, 102, 116]⟩, .string ⟨#[114, 105, 103, 104, 116]⟩, .string ⟨#[104, 111, 109, 101]⟩, .string ⟨#[101, 110, 100]⟩, .string ⟨#[112, 114, 105, 111, 114]⟩, .string ⟨#[110, 101, 120, 116]⟩, .string ⟨#[105, 110, 115, 101, 114, 116]⟩, .string ⟨#[100, 101, 108, 101, 116, 101]⟩, .string ⟨#[98, 97, 99, 107, 115, 112, 97, 99, 101]⟩, .string ⟨#[114, 101, 116, 117, 114, 110]⟩, .string ⟨#[116, 97, 98]⟩, .string ⟨#[101, 115, 99, 97, 112, 101]⟩, .string ⟨#[98, 97, 99, 107, 116, 97, 98]⟩]), (6, .int .i64 4)] fun TA => ?_
 refine W.region ?_
 iterate 2 refine RW.v ?_
 refine RW.nil ?_
 refine WL.once ?_
 refine W.rg [(1, .map (some b1)), (5, .agg #[.string ⟨#[102, 49]⟩, .string ⟨#[102, 50]⟩, .string ⟨#[102, 51]⟩, .string ⟨#[102, 52]⟩, .string ⟨#[102, 53]⟩, .string ⟨#[102, 54]⟩, .string ⟨#[102, 55]⟩, .string ⟨#[102, 56]⟩, .string ⟨#[102, 57]⟩, .string ⟨#[102, 49, 48]⟩, .string ⟨#[102, 49, 49]⟩, .string ⟨#[102, 49, 50]⟩, .string ⟨#[117, 112]⟩, .string ⟨#[100, 111, 119, 110]⟩, .string ⟨#[108, 101, 102, 116]⟩, .string ⟨#[114, 105, 103, 104, 116]⟩, .string ⟨#[104, 111, 109, 101]⟩, .string ⟨#[101, 110, 100]⟩, .string ⟨#[112, 114, 105, 111, 114]⟩, .string ⟨#[110, 101, 120, 116]⟩, .string ⟨#[105, 110, 115, 101, 114, 116]⟩, .string ⟨#[100, 101, 108, 101, 116, 101]⟩, .string ⟨#[98, 97, 99, 107, 115, 112, 97, 99, 101]⟩, .string ⟨#[114, 101, 116, 117, 114, 110]⟩, .string ⟨#[116, 97, 98]⟩, .string ⟨#[101, 115, 99, 97, 112, 101]⟩, .string ⟨#[98, 97, 99, 107, 116, 97, 98]⟩]), (6, .int .i64 5)] fun TA => ?_
 refine W.seq (W.region ?_)
 refine RW.v ?_
 refine RW.nil ?_
 refine W.rg [(1, .map (some b1)), (5, .agg #[.string ⟨#[102, 49]⟩, .string ⟨#[102, 50]⟩, .string ⟨#[102, 51]⟩, .string ⟨#[102, 52]⟩, .string ⟨#[102, 53]⟩, .string ⟨#[102, 54]⟩, .string ⟨#[102, 55]⟩, .string ⟨#[102, 56]⟩, .string ⟨#[102, 57]⟩, .string ⟨#[102, 49, 48]⟩, .string ⟨#[102, 49, 49]⟩, .string ⟨#[102, 49, 50]⟩, .string ⟨#[117, 112]⟩, .string ⟨#[100, 111, 119, 110]⟩, .string ⟨#[108, 101, 102, 116]⟩, .string ⟨#[114, 105, 103, 104, 116]⟩, .string ⟨#[104, 111, 109, 101]⟩, .string ⟨#[101, 110, 100]⟩, .string ⟨#[112, 114, 105, 111, 114]⟩, .string ⟨#[110, 101, 120, 116]⟩, .string ⟨#[105, 110, 115, 101, 114, 116]⟩, .string ⟨#[100, 101, 108, 101, 116, 101]⟩, .string ⟨#[98, 97, 99, 107, 115, 112, 97, 99, 101]⟩, .string ⟨#[114, 101, 116, 117, 114, 110]⟩, .string ⟨#[116, 97, 98]⟩, .string ⟨#[101, 115, 99, 97, 112, 101]⟩, .string ⟨#[98, 97, 99, 107, 116, 97, 98]⟩]), (6, .int .i64 5), (7, .bool true)] fun TA => ?_
 refine W.seq ?_
 refine W.c1 ?_
 refine W.skip ?_
 refine W.seq ?_
 refine W.block ?_
 refine W.seq (W.region ?_)
 refine RW.v ?_
 refine RW.val (v := .string ⟨#[102, 54]⟩) (by kernel_rfl) (by kernel_rfl) (by kernel_rfl) (by kernel_rfl) ?_
 iterate 2 refine RW.v ?_
 refine RW.nil ?_
 refine W.rg [(1, .map (some b1)), (2, .int .i64 5), (3, .string ⟨#[102, 54]⟩), (5, .agg #[.string ⟨#[102, 49]⟩, .string ⟨#[102, 50]⟩, .string ⟨#[102, 51]⟩, .string ⟨#[102, 52]⟩, .string ⟨#[102, 53]⟩, .string ⟨#[102, 54]⟩, .string ⟨#[102, 55]⟩, .string ⟨#[102, 56]⟩, .string ⟨#[102, 57]⟩, .string ⟨#[102, 49, 48]⟩, .string ⟨#[102, 49, 49]⟩, .string ⟨#[102, 49, 50]⟩, .string ⟨#[117, 112]⟩, .string ⟨#[100, 111, 119, 110]⟩, .string ⟨#[108, 101, 102, 116]⟩, .string ⟨#[114, 105, 103, 104, 116]⟩, .string ⟨#[104, 111, 109, 101]⟩, .string ⟨#[101, 110, 100]⟩, .string ⟨#[112, 114, 105, 111, 114]⟩, .string ⟨#[110, 101, 120, 116]⟩, .string ⟨#[105, 110, 115, 101, 114, 116]⟩, .string ⟨#[100, 101, 108, 101, 116, 101]⟩, .string ⟨#[98, 97, 99, 107, 115, 112, 97, 99, 101]⟩, .string ⟨#[114, 101, 116, 117, 114, 110]⟩, .string ⟨#[116, 97, 98]⟩, .string ⟨#[101, 115, 99, 97, 112, 101]⟩, .string ⟨#[98, 97, 99, 107, 116, 97, 98]⟩]), (6, .int .i64 5)] fun TA => ?_
 refine W.region ?_
 iterate 4 refine RW.v ?_
 refine RW.upL H 0 [(.string ⟨#[102, 49]⟩, .int .i64 2097153), (.string ⟨#[102, 50]⟩, .int .i64 2097154), (.string ⟨#[102, 51]⟩, .int .i64 2097155), (.string ⟨#[102, 52]⟩, .int .i64 2097156), (.string ⟨#[102, 53]⟩, .int .i64 2097157), (.string ⟨#[102, 54]⟩, .int .i64 2097158)] 6 ?_
 clear H; intro _ _ H; dsimp only [setL, delL] at H
 refine RW.nil ?_
 refine blkQ_normal ?_
 refine W.rg [(1, .map (some b1)), (5, .agg #[.string ⟨#[102, 49]⟩, .string ⟨#[102, 50]⟩, .string ⟨#[102, 51]⟩, .string ⟨#[102, 52]⟩, .string ⟨#[102, 53]⟩, .string ⟨#[102, 54]⟩, .string ⟨#[102, 55]⟩, .string ⟨#[102, 56]⟩, .string ⟨#[102, 57]⟩, .string ⟨#[102, 49, 48]⟩, .string ⟨#[102, 49, 49]⟩, .string ⟨#[102, 49, 50]⟩, .string ⟨#[117, 112]⟩, .string ⟨#[100, 111, 119, 110]⟩, .string ⟨#[108, 101, 102, 116]⟩, .string ⟨#[114, 105, 103, 104, 116]⟩, .string ⟨#[104, 111, 109, 101]⟩, .string ⟨#[101, 110, 100]⟩, .string ⟨#[112, 114, 105, 111, 114]⟩, .string ⟨#[110, 101, 120, 116]⟩, .string ⟨#[105, 110, 115, 101, 114, 116]⟩, .string ⟨#[100, 101, 108, 101, 116, 101]⟩, .string ⟨#[98, 97, 99, 107, 115, 112, 97, 99, 101]⟩, .string ⟨#[114, 101, 116, 117, 114, 110]⟩, .string ⟨#[116, 97, 98]⟩, .string ⟨#[101, 115, 99, 97, 112, 101]⟩, .string ⟨#[98, 97, 99, 107, 116, 97, 98]⟩]), (6, .int .i64 5)] fun TA => ?_
 refine W.region ?_
 iterate 2 refine RW.v ?_
 refine RW.nil ?_
 refine WL.once ?_
 refine W.rg [(1, .map (some b1)), (5, .agg #[.string ⟨#[102, 49]⟩, .string ⟨#[102, 50]⟩, .string ⟨#[102, 51]⟩, .string ⟨#[102, 52]⟩, .string ⟨#[102, 53]⟩, .string ⟨#[102, 54]⟩, .string ⟨#[102, 55]⟩, .string ⟨#[102, 56]⟩, .string ⟨#[102, 57]⟩, .string ⟨#[102, 49, 48]⟩, .string ⟨#[102, 49, 49]⟩, .string ⟨#[102, 49, 50]⟩, .string ⟨#[117, 112]⟩, .string ⟨#[100, 111, 119, 110]⟩, .string ⟨#[108, 101, 102, 116]⟩, .string ⟨#[114, 105, 103, 104, 116]⟩, .string ⟨#[104, 111, 109, 101]⟩, .string ⟨#[101, 110, 100]⟩, .string ⟨#[112, 114, 105, 111, 114]⟩, .string ⟨#[110, 101, 120, 116]⟩, .string ⟨#[105, 110, 115, 101, 114, 116]⟩, .string ⟨#[100, 101, 108, 101, 116, 101]⟩, .string ⟨#[98, 97, 99, 107, 115, 112, 97, 99, 101]⟩, .string ⟨#[114, 101, 116, 117, 114, 110]⟩, .string ⟨#[116, 97, 98]⟩, .string ⟨#[101, 115, 99, 97, 112, 101]⟩, .string ⟨#[98, 97, 99, 107, 116, 97, 98]⟩]), (6, .int .i64 6)] fun TA => ?_
 refine W.seq (W.region ?_)
 refine RW.v ?_
 refine RW.nil ?_
 refine W.rg [(1, .map (some b1)), (5, .agg #[.string ⟨#[102, 49]⟩, .string ⟨#[102, 50]⟩, .string ⟨#[102, 51]⟩, .string ⟨#[102, 52]⟩, .string ⟨#[102, 53]⟩, .string ⟨#[102, 54]⟩, .string ⟨#[102, 55]⟩, .string ⟨#[102, 56]⟩, .string ⟨#[102, 57]⟩, .string ⟨#[102, 49, 48]⟩, .string ⟨#[102, 49, 49]⟩, .string ⟨#[102, 49, 50]⟩, .string ⟨#[117, 112]⟩, .string ⟨#[100, 111, 119, 110]⟩, .string ⟨#[108, 101, 102, 116]⟩, .string ⟨#[114, 105, 103, 104, 116]⟩, .string ⟨#[104, 111, 109, 101]⟩, .string ⟨#[101, 110, 100]⟩, .string ⟨#[112, 114, 105, 111, 114]⟩, .string ⟨#[110, 101, 120, 116]⟩, .string ⟨#[105, 110, 115, 101, 114, 116]⟩, .string ⟨#[100, 101, 108, 101, 116, 101]⟩, .string ⟨#[98, 97, 99, 107, 115, 112, 97, 99, 101]⟩, .string ⟨#[114, 101, 116, 117, 114, 110]⟩, .string ⟨#[116, 97, 98]⟩, .string ⟨#[101, 115, 99, 97, 112, 101]⟩, .string ⟨#[98, 97, 99, 107, 116, 97, 98]⟩]), (6, .int .i64 6), (7, .bool true)] fun TA => ?_
 refine W.seq ?_
 refine W.c1 ?_
 refine W.skip ?_
 refine W.seq ?_
 refine W.block ?_
 refine W.seq (W.region ?_)
 refine RW.v ?_
 refine RW.val (v := .string ⟨#[102, 55]⟩) (by kernel_rfl) (by kernel_rfl) (by kernel_rfl) (by kernel_rfl) ?_
 iterate 2 refine RW.v ?_
 refine RW.nil ?_
 refine W.rg [(1, .map (some b1)), (2, .int .i64 6), (3, .string ⟨#[102, 55]⟩), (5, .agg #[.string ⟨#[102, 49]⟩, .string ⟨#[102, 50]⟩, .string ⟨#[102, 51]⟩, .string ⟨#[102, 52]⟩, .string ⟨#[102, 53]⟩, .string ⟨#[102, 54]⟩, .string ⟨#[102, 55]⟩, .string ⟨#[102, 56]⟩, .string ⟨#[102, 57]⟩, .string ⟨#[102, 49, 48]⟩, .string ⟨#[102, 49, 49]⟩, .string ⟨#[102, 49, 50]⟩, .string ⟨#[117, 112]⟩, .string ⟨#[100, 111, 119, 110]⟩, .string ⟨#[108, 101, 102, 116]⟩, .string ⟨#[114, 105, 103, 104, 116]⟩, .string ⟨#[104, 111, 109, 101]⟩, .string ⟨#[101, 110, 100]⟩, .string ⟨#[112, 114, 105, 111, 114]⟩, .string ⟨#[110, 101, 120, 116]⟩, .string ⟨#[105, 110, 115, 101, 114, 116]⟩, .string ⟨#[100, 101, 108, 101, 116, 101]⟩, .string ⟨#[98, 97, 99, 107, 115, 112, 97, 99, 101]⟩, .string ⟨#[114, 101, 116, 117, 114, 110]⟩, .string ⟨#[116, 97, 98]⟩, .string ⟨#[101, 115, 99, 97, 112, 101]⟩, .string ⟨#[98, 97, 99, 107, 116, 97, 98]⟩]), (6, .int .i64 6)] fun TA => ?_
 refine W.region ?_
 iterate 4 refine RW.v ?_
 refine RW.upL H 0 [(.string ⟨#[102, 49]⟩, .int .i64 2097153), (.string ⟨#[102, 50]⟩, .int .i64 2097154), (.string ⟨#[102, 51]⟩, .int .i64 2097155), (.string ⟨#[102, 52]⟩, .int .i64 2097156), (.string ⟨#[102, 53]⟩, .int .i64 2097157), (.string ⟨#[102, 54]⟩, .int .i64 2097158), (.string ⟨#[102, 55]⟩, .int .i64 2097159)] 7 ?_
 clear H; intro _ _ H; dsimp only [setL, delL] at H
 refine RW.nil ?_
 refine blkQ_normal ?_
 refine W.rg [(1, .map (some b1)), (5, .agg #[.string ⟨#[102, 49]⟩, .string ⟨#[102, 50]⟩, .string ⟨#[102, 51]⟩, .string ⟨#[102, 52]⟩, .string ⟨#[102, 53]⟩, .string ⟨#[102, 54]⟩, .string ⟨#[102, 55]⟩, .string ⟨#[102, 56]⟩, .string ⟨#[102, 57]⟩, .string ⟨#[102, 49, 48]⟩, .string ⟨#[102, 49, 49]⟩, .string ⟨#[102, 49, 50]⟩, .string ⟨#[117, 112]⟩, .string ⟨#[100, 111, 119, 110]⟩, .string ⟨#[108, 101, 102, 116]⟩, .string ⟨#[114, 105, 103, 104, 116]⟩, .string ⟨#[104, 111, 109, 101]⟩, .string ⟨#[101, 110, 100]⟩, .string ⟨#[112, 114, 105, 111, 114]⟩, .string ⟨#[110, 101, 120, 116]⟩, .string ⟨#[105, 110, 115, 101, 114, 116]⟩, .string ⟨#[100, 101, 108, 101, 116, 101]⟩, .string ⟨#[98, 97, 99, 107, 115, 112, 97, 99, 101]⟩, .string ⟨#[114, 101, 116, 117, 114, 110]⟩, .string ⟨#[116, 97, 98]⟩, .string ⟨#[101, 115, 99, 97, 112, 101]⟩, .string ⟨#[98, 97, 99, 107, 116, 97, 98]⟩]), (6, .int .i64 6)] fun TA => ?_
 refine W.region ?_
 iterate 2 refine RW.v ?_
 refine RW.nil ?_
 refine WL.once ?_
 refine W.rg [(1, .map (some b1)), (5, .agg #[.string ⟨#[102, 49]⟩, .string ⟨#[102, 50]⟩, .string ⟨#[102, 51]⟩, .string ⟨#[102, 52]⟩, .string ⟨#[102, 53]⟩, .string ⟨#[102, 54]⟩, .string ⟨#[102, 55]⟩, .string ⟨#[102, 56]⟩, .string ⟨#[102, 57]⟩, .string ⟨#[102, 49, 48]⟩, .string ⟨#[102, 49, 49]⟩, .string ⟨#[102, 49, 50]⟩, .string ⟨#[117, 112]⟩, .string ⟨#[100, 111, 119, 110]⟩, .string ⟨#[108, 101, 102, 116]⟩, .string ⟨#[114, 105, 103, 104, 116]⟩, .string ⟨#[104, 111, 109, 101]⟩, .string ⟨#[101, 110, 100]⟩, .string ⟨#[112, 114, 105, 111, 114]⟩, .string ⟨#[110, 101, 120, 116]⟩, .string ⟨#[105, 110, 115, 101, 114, 116]⟩, .string ⟨#[100, 101, 108, 101, 116, 101]⟩, .string ⟨#[98, 97, 99, 107, 115, 112, 97, 99, 101]⟩, .string ⟨#[114, 101, 116, 117, 114, 110]⟩, .string ⟨#[116, 97, 98]⟩, .string ⟨#[101, 115, 99, 97, 112, 101]⟩, .string ⟨#[98, 97, 99, 107, 116, 97, 98]⟩]), (6, .int .i64 7)] fun TA => ?_
 refine W.seq (W.region ?_)
 refine RW.v ?_
 refine RW.nil ?_
 refine W.rg [(1, .map (some b1)), (5, .agg #[.string ⟨#[102, 49]⟩, .string ⟨#[102, 50]⟩, .string ⟨#[102, 51]⟩, .string ⟨#[102, 52]⟩, .string ⟨#[102, 53]⟩, .string ⟨#[102, 54]⟩, .string ⟨#[102, 55]⟩, .string ⟨#[102, 56]⟩, .string ⟨#[102, 57]⟩, .string ⟨#[102, 49, 48]⟩, .string ⟨#[102, 49, 49]⟩, .string ⟨#[102, 49, 50]⟩, .string ⟨#[117, 112]⟩, .string ⟨#[100, 111, 119, 110]⟩, .string ⟨#[108, 101, 102, 116]⟩, .string ⟨#[114, 105, 103, 104, 116]⟩, .string ⟨#[104, 111, 109, 101]⟩, .string ⟨#[101, 110, 100]⟩, .string ⟨#[112, 114, 105, 111, 114]⟩, .string ⟨#[110, 101, 120, 116]⟩, .string ⟨#[105, 110, 115, 101, 114, 116]⟩, .string ⟨#[100, 101, 108, 101, 116, 101]⟩, .string ⟨#[98, 97, 99, 107, 115, 112, 97, 99, 101]⟩, .string ⟨#[114, 101, 116, 117, 114, 110]⟩, .string ⟨#[116, 97, 98]⟩, .string ⟨#[101, 115, 99, 97, 112, 101]⟩, .string ⟨#[98, 97, 99, 107, 116, 97, 98]⟩]), (6, .int .i64 7), (7, .bool true)] fun TA => ?_
 refine W.seq ?_
 refine W.c1 ?_
 refine W.skip ?_
 refine W.seq ?_
 refine W.block ?_
 refine W.seq (W.region ?_)
 refine RW.v ?_
 refine RW.val (v := .string ⟨#[102, 56]⟩) (by kernel_rfl) (by kernel_rfl) (by kernel_rfl) (by kernel_rfl) ?_
 iterate 2 refine RW.v ?_
 refine RW.nil ?_
 refine W.rg [(1, .map (some b1)), (2, .int .i64 7), (3, .string ⟨#[102, 56]⟩), (5, .agg #[.string ⟨#[102, 49]⟩, .string ⟨#[102, 50]⟩, .string ⟨#[102, 51]⟩, .string ⟨#[102, 52]⟩, .string ⟨#[102, 53]⟩, .string ⟨#[102, 54]⟩, .string ⟨#[102, 55]⟩, .string ⟨#[102, 56]⟩, .string ⟨#[102, 57]⟩, .string ⟨#[102, 49, 48]⟩, .string ⟨#[102, 49, 49]⟩, .string ⟨#[102, 49, 50]⟩, .string ⟨#[117, 112]⟩, .string ⟨#[100, 111, 119, 110]⟩, .string ⟨#[108, 101, 102, 116]⟩, .string ⟨#[114, 105, 103, 104, 116]⟩, .string ⟨#[104, 111, 109, 101]⟩, .string ⟨#[101, 110, 100]⟩, .string ⟨#[112, 114, 105, 111, 114]⟩, .string ⟨#[110, 101, 120, 116]⟩, .string ⟨#[105, 110, 115, 101, 114, 116]⟩, .string ⟨#[100, 101, 108, 101, 116, 101]⟩, .string ⟨#[98, 97, 99, 107, 115, 112, 97, 99, 101]⟩, .string ⟨#[114, 101, 116, 117, 114, 110]⟩, .string ⟨#[116, 97, 98]⟩, .string ⟨#[101, 115, 99, 97, 112, 101]⟩, .string ⟨#[98, 97, 99, 107, 116, 97, 98]⟩]), (6, .int .i64 7)] fun TA => ?_
 refine W.region ?_
 iterate 4 refine RW.v ?_
 refine RW.upL H 0 [(.string ⟨#[102, 49]⟩, .int .i64 2097153), (.string ⟨#[102, 50]⟩, .int .i64 2097154), (.string ⟨#[102, 51]⟩, .int .i64 2097155), (.string ⟨#[102, 52]⟩, .int .i64 2097156), (.string ⟨#[102, 53]⟩, .int .i64 2097157), (.string ⟨#[102, 54]⟩, .int .i64 2097158), (.string ⟨#[102, 55]⟩, .int .i64 2097159), (.string ⟨#[102, 56]⟩, .int .i64 2097160)] 8 ?_
 clear H; intro _ _ H; dsimp only [setL, delL] at H
 refine RW.nil ?_
 refine blkQ_normal ?_
 refine W.rg [(1, .map (some b1)), (5, .agg #[.string ⟨#[102, 49]⟩, .string ⟨#[102, 50]⟩, .string ⟨#[102, 51]⟩, .string ⟨#[102, 52]⟩, .string ⟨#[102, 53]⟩, .string ⟨#[102, 54]⟩, .string ⟨#[102, 55]⟩, .string ⟨#[102, 56]⟩, .string ⟨#[102, 57]⟩, .string ⟨#[102, 49, 48]⟩, .string ⟨#[102, 49, 49]⟩, .string ⟨#[102, 49, 50]⟩, .string ⟨#[117, 112]⟩, .string ⟨#[100, 111, 119, 110]⟩, .string ⟨#[108, 101, 102, 116]⟩, .string ⟨#[114, 105, 103, 104, 116]⟩, .string ⟨#[104, 111, 109, 101]⟩, .string ⟨#[101, 110, 100]⟩, .string ⟨#[112, 114, 105, 111, 114]⟩, .string ⟨#[110, 101, 120, 116]⟩, .string ⟨#[105, 110, 115, 101, 114, 116]⟩, .string ⟨#[100, 101, 108, 101, 116, 101]⟩, .string ⟨#[98, 97, 99, 107, 115, 112, 97, 99, 101]⟩, .string ⟨#[114, 101, 116, 117, 114, 110]⟩, .string ⟨#[116, 97, 98]⟩, .string ⟨#[101, 115, 99, 97, 112, 101]⟩, .string ⟨#[98, 97, 99, 107, 116, 97, 98]⟩]), (6, .int .i64 7)] fun TA => ?_
 refine W.region ?_
 iterate 2 refine RW.v ?_
 refine RW.nil ?_
 refine WL.once ?_
 refine W.rg [(1, .map (some b1)), (5, .agg #[.string ⟨#[102, 49]⟩, .string ⟨#[102, 50]⟩, .string ⟨#[102, 51]⟩, .string ⟨#[102, 52]⟩, .string ⟨#[102, 53]⟩, .string ⟨#[102, 54]⟩, .string ⟨#[102, 55]⟩, .string ⟨#[102, 56]⟩, .string ⟨#[102, 57]⟩, .string ⟨#[102, 49, 48]⟩, .string ⟨#[102, 49, 49]⟩, .string ⟨#[102, 49, 50]⟩, .string ⟨#[117, 112]⟩, .string ⟨#[100, 111, 119, 110]⟩, .string ⟨#[108, 101, 102, 116]⟩, .string ⟨#[114, 105, 103, 104, 116]⟩, .string ⟨#[104, 111, 109, 101]⟩, .string ⟨#[101, 110, 100]⟩, .string ⟨#[112, 114, 105, 111, 114]⟩, .string ⟨#[110, 101, 120, 116]⟩, .string ⟨#[105, 110, 115, 101, 114, 116]⟩, .string ⟨#[100, 101, 108, 101, 116, 101]⟩, .string ⟨#[98, 97, 99, 107, 115, 112, 97, 99, 101]⟩, .string ⟨#[114, 101, 116, 117, 114, 110]⟩, .string ⟨#[116, 97, 98]⟩, .string ⟨#[101, 115, 99, 97, 112, 101]⟩, .string ⟨#[98, 97, 99, 107, 116, 97, 98]⟩]), (6, .int .i64 8)] fun TA => ?_
 refine W.seq (W.region ?_)
 refine RW.v ?_
 refine RW.nil ?_
 refine W.rg [(1, .map (some b1)), (5, .agg #[.string ⟨#[102, 49]⟩, .string ⟨#[102, 50]⟩, .string ⟨#[102, 51]⟩, .string ⟨#[102, 52]⟩, .string ⟨#[102, 53]⟩, .string ⟨#[102, 54]⟩, .string ⟨#[102, 55]⟩, .string ⟨#[102, 56]⟩, .string ⟨#[102, 57]⟩, .string ⟨#[102, 49, 48]⟩, .string ⟨#[102, 49, 49]⟩, .string ⟨#[102, 49, 50]⟩, .string ⟨#[117, 112]⟩, .string ⟨#[100, 111, 119, 110]⟩, .string ⟨#[108, 101, 102, 116]⟩, .string ⟨#[114, 105, 103, 104, 116]⟩, .string ⟨#[104, 111, 109, 101]⟩, .string ⟨#[101, 110, 100]⟩, .string ⟨#[112, 114, 105, 111, 114]⟩, .string ⟨#[110, 101, 120, 116]⟩, .string ⟨#[105, 110, 115, 101, 114, 116]⟩, .string ⟨#[100, 101, 108, 101, 116, 101]⟩, .string ⟨#[98, 97, 99, 107, 115, 112, 97, 99, 101]⟩, .string ⟨#[114, 101, 116, 117, 114, 110]⟩, .string ⟨#[116, 97, 98]⟩, .string ⟨#[101, 115, 99, 97, 112, 101]⟩, .string ⟨#[98, 97, 99, 107, 116, 97, 98]⟩]), (6, .int .i64 8), (7, .bool true)] fun TA => ?_
 refine W.seq ?_
 refine W.c1 ?_
 refine W.skip ?_
 refine W.seq ?_
 refine W.block ?_
 refine W.seq (W.region ?_)
 refine RW.v ?_
 refine RW.val (v := .string ⟨#[102, 57]⟩) (by kernel_rfl) (by kernel_rfl) (by kernel_rfl) (by kernel_rfl) ?_
 iterate 2 refine RW.v ?_
 refine RW.nil ?_
 refine W.rg [(1, .map (some b1)), (2, .int .i64 8), (3, .string ⟨#[102, 57]⟩), (5, .agg #[.string ⟨#[102, 49]⟩, .string ⟨#[102, 50]⟩, .string ⟨#[102, 51]⟩, .string ⟨#[102, 52]⟩, .string ⟨#[102, 53]⟩, .string ⟨#[102, 54]⟩, .string ⟨#[102, 55]⟩, .string ⟨#[102, 56]⟩, .string ⟨#[102, 57]⟩, .string ⟨#[102, 49, 48]⟩, .string ⟨#[102, 49, 49]⟩, .string ⟨#[102, 49, 50]⟩, .string ⟨#[117, 112]⟩, .string ⟨#[100, 111, 119, 110]⟩, .string ⟨#[108, 101, 102, 116]⟩, .string ⟨#[114, 105, 103, 104, 116]⟩, .string ⟨#[104, 111, 109, 101]⟩, .string ⟨#[101, 110, 100]⟩, .string ⟨#[112, 114, 105, 111, 114]⟩, .string ⟨#[110, 101, 120, 116]⟩, .string ⟨#[105, 110, 115, 101, 114, 116]⟩, .string ⟨#[100, 101, 108, 101, 116, 101]⟩, .string ⟨#[98, 97, 99, 107, 115, 112, 97, 99, 101]⟩, .string ⟨#[114, 101, 116, 117, 114, 110]⟩, .string ⟨#[116, 97, 98]⟩, .string ⟨#[101, 115, 99, 97, 112, 101]⟩, .string ⟨#[98, 97, 99, 107, 116, 97, 98]⟩]), (6, .int .i64 8)] fun TA => ?_
 refine W.region ?_
 iterate 4 refine RW.v ?_
 refine RW.upL H 0 [(.string ⟨#[102, 49]⟩, .int .i64 2097153), (.string ⟨#[102, 50]⟩, .int .i64 2097154), (.string ⟨#[102, 51]⟩, .int .i64 2097155), (.string ⟨#[102, 52]⟩, .int .i64 2097156), (.string ⟨#[102, 53]⟩, .int .i64 2097157), (.string ⟨#[102, 54]⟩, .int .i64 2097158), (.string ⟨#[102, 55]⟩, .int .i64 2097159), (.string ⟨#[102, 56]⟩, .int .i64 2097160), (.string ⟨#[102, 57]⟩, .int .i64 2097161)] 9 ?_
 clear H; intro _ _ H; dsimp only [setL, delL] at H
 refine RW.nil ?_
 refine blkQ_normal ?_
 refine W.rg [(1, .map (some b1)), (5, .agg #[.string ⟨#[102, 49]⟩, .string ⟨#[102, 50]⟩, .string ⟨#[102, 51]⟩, .string ⟨#[102, 52]⟩, .string ⟨#[102, 53]⟩, .string ⟨#[102, 54]⟩, .string ⟨#[102, 55]⟩, .string ⟨#[102, 56]⟩, .string ⟨#[102, 57]⟩, .string ⟨#[102, 49, 48]⟩, .string ⟨#[102, 49, 49]⟩, .string ⟨#[102, 49, 50]⟩, .string ⟨#[117, 112]⟩, .string ⟨#[100, 111, 119, 110]⟩, .string ⟨#[108, 101, 102, 116]⟩, .string ⟨#[114, 105, 103, 104, 116]⟩, .string ⟨#[104, 111, 109, 101]⟩, .string ⟨#[101, 110, 100]⟩, .string ⟨#[112, 114, 105, 111, 114]⟩, .string ⟨#[110, 101, 120, 116]⟩, .string ⟨#[105, 110, 115, 101, 114, 116]⟩, .string ⟨#[100, 101, 108, 101, 116, 101]⟩, .string ⟨#[98, 97, 99, 107, 115, 112, 97, 99, 101]⟩, .string ⟨#[114, 101, 116, 117, 114, 110]⟩, .string ⟨#[116, 97, 98]⟩, .string ⟨#[101, 115, 99, 97, 112, 101]⟩, .string ⟨#[98, 97, 99, 107, 116, 97, 98]⟩]), (6, .int .i64 8)] fun TA => ?_
 refine W.region ?_
 iterate 2 refine RW.v ?_
 refine RW.nil ?_
 refine WL.once ?_
 refine W.rg [(1, .map (some b1)), (5, .agg #[.string ⟨#[102, 49]⟩, .string ⟨#[102, 50]⟩, .string ⟨#[102, 51]⟩, .string ⟨#[102, 52]⟩, .string ⟨#[102, 53]⟩, .string ⟨#[102, 54]⟩, .string ⟨#[102, 55]⟩, .string ⟨#[102, 56]⟩, .string ⟨#[102, 57]⟩, .string ⟨#[102, 49, 48]⟩, .string ⟨#[102, 49, 49]⟩, .string ⟨#[102, 49, 50]⟩, .string ⟨#[117, 112]⟩, .string ⟨#[100, 111, 119, 110]⟩, .string ⟨#[108, 101, 102, 116]⟩, .string ⟨#[114, 105, 103, 104, 116]⟩, .string ⟨#[104, 111, 109, 101]⟩, .string ⟨#[101, 110, 100]⟩, .string ⟨#[112, 114, 105, 111, 114]⟩, .string ⟨#[110, 101, 120, 116]⟩, .string ⟨#[105, 110, 115, 101, 114, 116]⟩, .string ⟨#[100, 101, 108, 101, 116, 101]⟩, .string ⟨#[98, 97, 99, 107, 115, 112, 97, 99, 101]⟩, .string ⟨#[114, 101, 116, 117, 114, 110]⟩, .string ⟨#[116, 97, 98]⟩, .string ⟨#[101, 115, 99, 97, 112, 101]⟩, .string ⟨#[98, 97, 99, 107, 116, 97, 98]⟩]), (6, .int .i64 9)] fun TA => ?_
 refine W.seq (W.region ?_)
 refine RW.v ?_
 refine RW.nil ?_
 refine W.rg [(1, .map (some b1)), (5, .agg #[.string ⟨#[102, 49]⟩, .string ⟨#[102, 50]⟩, .string ⟨#[102, 51]⟩, .string ⟨#[102, 52]⟩, .string ⟨#[102, 53]⟩, .string ⟨#[102, 54]⟩, .string ⟨#[102, 55]⟩, .string ⟨#[102, 56]⟩, .string ⟨#[102, 57]⟩, .string ⟨#[102, 49, 48]⟩, .string ⟨#[102, 49, 49]⟩, .string ⟨#[102, 49, 50]⟩, .string ⟨#[117, 112]⟩, .string ⟨#[100, 111, 119, 110]⟩, .string ⟨#[108, 101, 102, 116]⟩, .string ⟨#[114, 105, 103, 104, 116]⟩, .string ⟨#[104, 111, 109, 101]⟩, .string ⟨#[101, 110, 100]⟩, .string ⟨#[112, 114, 105, 111, 114]⟩, .string ⟨#[110, 101, 120, 116]⟩, .string ⟨#[105, 110, 115, 101, 114, 116]⟩, .string ⟨#[100, 101, 108, 101, 116, 101]⟩, .string ⟨#[98, 97, 99, 107, 115, 112, 97, 99, 101]⟩, .string ⟨#[114, 101, 116, 117, 114, 110]⟩, .string ⟨#[116, 97, 98]⟩, .string ⟨#[101, 115, 99, 97, 112, 101]⟩, .string ⟨#[98, 97, 99, 107, 116, 97, 98]⟩]), (6, .int .i64 9), (7, .bool true)] fun TA => ?_
 refine W.seq ?_
 refine W.c1 ?_
 refine W.skip ?_
 refine W.seq ?_
 refine W.block ?_
 refine W.seq (W.region ?_)
 refine RW.v ?_
 refine RW.val (v := .string ⟨#[102, 49, 48]⟩) (by kernel_rfl) (by kernel_rfl) (by kernel_rfl) (by kernel_rfl) ?_
 iterate 2 refine RW.v ?_
 refine RW.nil ?_
 refine W.rg [(1, .map (some b1)), (2, .int .i64 9), (3, .string ⟨#[102, 49, 48]⟩), (5, .agg #[.string ⟨#[102, 49]⟩, .string ⟨#[102, 50]⟩, .string ⟨#[102, 51]⟩, .string ⟨#[102, 52]⟩, .string ⟨#[102, 53]⟩, .string ⟨#[102, 54]⟩, .string ⟨#[102, 55]⟩, .string ⟨#[102, 56]⟩, .string ⟨#[102, 57]⟩, .string ⟨#[102, 49, 48]⟩, .string ⟨#[102, 49, 49]⟩, .string ⟨#[102, 49, 50]⟩, .string ⟨#[117, 112]⟩, .string ⟨#[100, 111, 119, 110]⟩, .string ⟨#[108, 101, 102, 116]⟩, .string ⟨#[114, 105, 103, 104, 116]⟩, .string ⟨#[104, 111, 109, 101]⟩, .string ⟨#[101, 110, 100]⟩, .string ⟨#[112, 114, 105, 111, 114]⟩, .string ⟨#[110, 101, 120, 116]⟩, .string ⟨#[105, 110, 115, 101, 114, 116]⟩, .string ⟨#[100, 101, 108, 101, 116, 101]⟩, .string ⟨#[98, 97, 99, 107, 115, 112, 97, 99, 101]⟩, .string ⟨#[114, 101, 116, 117, 114, 110]⟩, .string ⟨#[116, 97, 98]⟩, .string ⟨#[101, 115, 99, 97, 112, 101]⟩, .string ⟨#[98, 97, 99, 107, 116, 97, 98]⟩]), (6, .int .i64 9)] fun TA => ?_
 refine W.region ?_
 iterate 4 refine RW.v ?_
 refine RW.upL H 0 [(.string ⟨#[102, 49]⟩, .int .i64 2097153), (.string ⟨#[102, 50]⟩, .int .i64 2097154), (.string ⟨#[102, 51]⟩, .int .i64 2097155), (.string ⟨#[102, 52]⟩, .int .i64 2097156), (.string ⟨#[102, 53]⟩, .int .i64 2097157), (.string ⟨#[102, 54]⟩, .int .i64 2097158), (.string ⟨#[102, 55]⟩, .int .i64 2097159), (.string ⟨#[102, 56]⟩, .int .i64 2097160), (.string ⟨#[102, 57]⟩, .int .i64 2097161), (.string ⟨#[102, 49, 48]⟩, .int .i64 2097162)] 10 ?_
 clear H; intro _ _ H; dsimp only [setL, delL] at H
 refine RW.nil ?_
 refine blkQ_normal ?_
 refine W.rg [(1, .map (some b1)), (5, .agg #[.string ⟨#[102, 49]⟩, .string ⟨#[102, 50]⟩, .string ⟨#[102, 51]⟩, .string ⟨#[102, 52]⟩, .string ⟨#[102, 53]⟩, .string ⟨#[102, 54]⟩, .string ⟨#[102, 55]⟩, .string ⟨#[102, 56]⟩, .string ⟨#[102, 57]⟩, .string ⟨#[102, 49, 48]⟩, .string ⟨#[102, 49, 49]⟩, .string ⟨#[102, 49, 50]⟩, .string ⟨#[117, 112]⟩, .string ⟨#[100, 111, 119, 110]⟩, .string ⟨#[108, 101, 102, 116]⟩, .string ⟨#[114, 105, 103, 104, 116]⟩, .string ⟨#[104, 111, 109, 101]⟩, .string ⟨#[101, 110, 100]⟩, .string ⟨#[112, 114, 105, 111, 114]⟩, .string ⟨#[110, 101, 120, 116]⟩, .string ⟨#[105, 110, 115, 101, 114, 116]⟩, .string ⟨#[100, 101, 108, 101, 116, 101]⟩, .string ⟨#[98, 97, 99, 107, 115, 112, 97, 99, 101]⟩, .string ⟨#[114, 101, 116, 117, 114, 110]⟩, .string ⟨#[116, 97, 98]⟩, .string ⟨#[101, 115, 99, 97, 112, 101]⟩, .string ⟨#[98, 97, 99, 107, 116, 97, 98]⟩]), (6, .int .i64 9)] fun TA => ?_
 refine W.region ?_
 iterate 2 refine RW.v ?_
 refine RW.nil ?_
 refine WL.once ?_
 refine W.rg [(1, .map (some b1)), (5, .agg #[.string ⟨#[102, 49]⟩, .string ⟨#[102, 50]⟩, .string ⟨#[102, 51]⟩, .string ⟨#[102, 52]⟩, .string ⟨#[102, 53]⟩, .string ⟨#[102, 54]⟩, .string ⟨#[102, 55]⟩, .string ⟨#[102, 56]⟩, .string ⟨#[102, 57]⟩, .string ⟨#[102, 49, 48]⟩, .string ⟨#[102, 49, 49]⟩, .string ⟨#[102, 49, 50]⟩, .string ⟨#[117, 112]⟩, .string ⟨#[100, 111, 119, 110]⟩, .string ⟨#[108, 101, 102, 116]⟩, .string ⟨#[114, 105, 103, 104, 116]⟩, .string ⟨#[104, 111, 109, 101]⟩, .string ⟨#[101, 110, 100]⟩, .string ⟨#[112, 114, 105, 111, 114]⟩, .string ⟨#[110, 101, 120, 116]⟩, .string ⟨#[105, 110, 115, 101, 114, 116]⟩, .string ⟨#[100, 101, 108, 101, 116, 101]⟩, .string ⟨#[98, 97, 99, 107, 115, 112, 97, 99, 101]⟩, .string ⟨#[114, 101, 116, 117, 114, 110]⟩, .string ⟨#[116, 97, 98]⟩, .string ⟨#[101, 115, 99, 97, 112, 101]⟩, .string ⟨#[98, 97, 99, 107, 116, 97, 98]⟩]), (6, .int .i64 10)] fun TA => ?_
 refine W.seq (W.region ?_)
 refine RW.v ?_
 refine RW.nil ?_
 refine W.rg [(1, .map (some b1)), (5, .agg #[.string ⟨#[102, 49]⟩, .string ⟨#[102, 50]⟩, .string ⟨#[102, 51]⟩, .string ⟨#[102, 52]⟩, .string ⟨#[102, 53]⟩, .string ⟨#[102, 54]⟩, .string ⟨#[102, 55]⟩, .string ⟨#[102, 56]⟩, .string ⟨#[102, 57]⟩, .string ⟨#[102, 49, 48]⟩, .string ⟨#[102, 49, 49]⟩, .string ⟨#[102, 49, 50]⟩, .string ⟨#[117, 112]⟩, .string ⟨#[100, 111, 119, 110]⟩, .string ⟨#[108, 101, 102, 116]⟩, .string ⟨#[114, 105, 103, 104, 116]⟩, .string ⟨#[104, 111, 109, 101]⟩, .string ⟨#[101, 110, 100]⟩, .string ⟨#[112, 114, 105, 111, 114]⟩, .string ⟨#[110, 101, 120, 116]⟩, .string ⟨#[105, 110, 115, 101, 114, 116]⟩, .string ⟨#[100, 101, 108, 101, 116, 101]⟩, .string ⟨#[98, 97, 99, 107, 115, 112, 97, 99, 101]⟩, .string ⟨#[114, 101, 116, 117, 114, 110]⟩, .string ⟨#[116, 97, 98]⟩, .string ⟨#[101, 115, 99, 97, 112, 101]⟩, .string ⟨#[98, 97, 99, 107, 116, 97, 98]⟩]), (6, .int .i64 10), (7, .bool true)] fun TA => ?_
 refine W.seq ?_
 refine W.c1 ?_
 refine W.skip ?_
 refine W.seq ?_
 refine W.block ?_
 refine W.seq (W.region ?_)
 refine RW.v ?_
 refine RW.val (v := .string ⟨#[102, 49, 49]⟩) (by kernel_rfl) (by kernel_rfl) (by kernel_rfl) (by kernel_rfl) ?_
 iterate 2 refine RW.v ?_
 refine RW.nil ?_
 refine W.rg [(1, .map (some b1)), (2, .int .i64 10), (3, .string ⟨#[102, 49, 49]⟩), (5, .agg #[.string ⟨#[102, 49]⟩, .string ⟨#[102, 50]⟩, .string ⟨#[102, 51]⟩, .string ⟨#[102, 52]⟩, .string ⟨#[102, 53]⟩, .string ⟨#[102, 54]⟩, .string ⟨#[102, 55]⟩, .string ⟨#[102, 56]⟩, .string ⟨#[102, 57]⟩, .string ⟨#[102, 49, 48]⟩, .string ⟨#[102, 49, 49]⟩, .string ⟨#[102, 49, 50]⟩, .string ⟨#[117, 112]⟩, .string ⟨#[100, 111, 119, 110]⟩, .string ⟨#[108, 101, 102, 116]⟩, .string ⟨#[114, 105, 103, 104, 116]⟩, .string ⟨#[104, 111, 109, 101]⟩, .string ⟨#[101, 110, 100]⟩, .string ⟨#[112, 114, 105, 111, 114]⟩, .string ⟨#[110, 101, 120, 116]⟩, .string ⟨#[105, 110, 115, 101, 114, 116]⟩, .string ⟨#[100, 101, 108, 101, 116, 101]⟩, .string ⟨#[98, 97, 99, 107, 115, 112, 97, 99, 101]⟩, .string ⟨#[114, 101, 116, 117, 114, 110]⟩, .string ⟨#[116, 97, 98]⟩, .string ⟨#[101, 115, 99, 97, 112, 101]⟩, .string ⟨#[98, 97, 99, 107, 116, 97, 98]⟩]), (6, .int .i64 10)] fun TA => ?_
 refine W.region ?_
 iterate 4 refine RW.v ?_
 refine RW.upL H 0 [(.string ⟨#[102, 49]⟩, .int .i64 2097153), (.string ⟨#[102, 50]⟩, .int .i64 2097154), (.string ⟨#[102, 51]⟩, .int .i64 2097155), (.string ⟨#[102, 52]⟩, .int .i64 2097156), (.string ⟨#[102, 53]⟩, .int .i64 2097157), (.string ⟨#[102, 54]⟩, .int .i64 2097158), (.string ⟨#[102, 55]⟩, .int .i64 2097159), (.string ⟨#[102, 56]⟩, .int .i64 2097160), (.string ⟨#[102, 57]⟩, .int .i64 2097161), (.string ⟨#[102, 49, 48]⟩, .int .i64 2097162), (.string ⟨#[102, 49, 49]⟩, .int .i64 2097163)] 11 ?_
 clear H; intro _ _ H; dsimp only [setL, delL] at H
 refine RW.nil ?_
 refine blkQ_normal ?_
 refine W.rg [(1, .map (some b1)), (5, .agg #[.string ⟨#[102, 49]⟩, .string ⟨#[102, 50]⟩, .string ⟨#[102, 51]⟩, .string ⟨#[102, 52]⟩, .string ⟨#[102, 53]⟩, .string ⟨#[102, 54]⟩, .string ⟨#[102, 55]⟩, .string ⟨#[102, 56]⟩, .string ⟨#[102, 57]⟩, .string ⟨#[102, 49, 48]⟩, .string ⟨#[102, 49, 49]⟩, .string ⟨#[102, 49, 50]⟩, .string ⟨#[117, 112]⟩, .string ⟨#[100, 111, 119, 110]⟩, .string ⟨#[108, 101, 102, 116]⟩, .string ⟨#[114, 105, 103, 104, 116]⟩, .string ⟨#[104, 111, 109, 101]⟩, .string ⟨#[101, 110, 100]⟩, .string ⟨#[112, 114, 105, 111, 114]⟩, .string ⟨#[110, 101, 120, 116]⟩, .string ⟨#[105, 110, 115, 101, 114, 116]⟩, .string ⟨#[100, 101, 108, 101, 116, 101]⟩, .string ⟨#[98, 97, 99, 107, 115, 112, 97, 99, 101]⟩, .string ⟨#[114, 101, 116, 117, 114, 110]⟩, .string ⟨#[116, 97, 98]⟩, .string ⟨#[101, 115, 99, 97, 112, 101]⟩, .string ⟨#[98, 97, 99, 107, 116, 97, 98]⟩]), (6, .int .i64 10)] fun TA => ?_
 refine W.region ?_
 iterate 2 refine RW.v ?_
 refine RW.nil ?_
 refine WL.once ?_
 refine W.rg [(1, .map (some b1)), (5, .agg #[.string ⟨#[102, 49]⟩, .string ⟨#[102, 50]⟩, .string ⟨#[102, 51]⟩, .string ⟨#[102, 52]⟩, .string ⟨#[102, 53]⟩, .string ⟨#[102, 54]⟩, .string ⟨#[102, 55]⟩, .string ⟨#[102, 56]⟩, .string ⟨#[102, 57]⟩, .string ⟨#[102, 49, 48]⟩, .string ⟨#[102, 49, 49]⟩, .string ⟨#[102, 49, 50]⟩, .string ⟨#[117, 112]⟩, .string ⟨#[100, 111, 119, 110]⟩, .string ⟨#[108, 101, 102, 116]⟩, .string ⟨#[114, 105, 103, 104, 116]⟩, .string ⟨#[104, 111, 109, 101]⟩, .string ⟨#[101, 110, 100]⟩, .string ⟨#[112, 114, 105, 111, 114]⟩, .string ⟨#[110, 101, 120, 116]⟩, .string ⟨#[105, 110, 115, 101, 114, 116]⟩, .string ⟨#[100, 101, 108, 101, 116, 101]⟩, .string ⟨#[98, 97, 99, 107, 115, 112, 97, 99, 101]⟩, .string ⟨#[114, 101, 116, 117, 114, 110]⟩, .string ⟨#[116, 97, 98]⟩, .string ⟨#[101, 115, 99, 97, 112, 101]⟩, .string ⟨#[98, 97, 99, 107, 116, 97, 98]⟩]), (6, .int .i64 11)] fun TA => ?_
 refine W.seq (W.region ?_)
 refine RW.v ?_
 refine RW.nil ?_
 refine W.rg [(1, .map (some b1)), (5, .agg #[.string ⟨#[102, 49]⟩, .string ⟨#[102, 50]⟩, .string ⟨#[102, 51]⟩, .string ⟨#[102, 52]⟩, .string ⟨#[102, 53]⟩, .string ⟨#[102, 54]⟩, .string ⟨#[102, 55]⟩, .string ⟨#[102, 56]⟩, .string ⟨#[102, 57]⟩, .string ⟨#[102, 49, 48]⟩, .string ⟨#[102, 49, 49]⟩, .string ⟨#[102, 49, 50]⟩, .string ⟨#[117, 112]⟩, .string ⟨#[100, 111, 119, 110]⟩, .string ⟨#[108, 101, 102, 116]⟩, .string ⟨#[114, 105, 103, 104, 116]⟩, .string ⟨#[104, 111, 109, 101]⟩, .string ⟨#[101, 110, 100]⟩, .string ⟨#[112, 114, 105, 111, 114]⟩, .string ⟨#[110, 101, 120, 116]⟩, .string ⟨#[105, 110, 115, 101, 114, 116]⟩, .string ⟨#[100, 101, 108, 101, 116, 101]⟩, .string ⟨#[98, 97, 99, 107, 115, 112, 97, 99, 101]⟩, .string ⟨#[114, 101, 116, 117, 114, 110]⟩, .string ⟨#[116, 97, 98]⟩, .string ⟨#[101, 115, 99, 97, 112, 101]⟩, .string ⟨#[98, 97, 99, 107, 116, 97, 98]⟩]), (6, .int .i64 11), (7, .bool true)] fun TA => ?_
 refine W.seq ?_
 refine W.c1 ?_
 refine W.skip ?_
 refine W.seq ?_
 refine W.block ?_
 refine W.seq (W.region ?_)
 refine RW.v ?_
 refine RW.val (v := .string ⟨#[102, 49, 50]⟩) (by kernel_rfl) (by kernel_rfl) (by kernel_rfl) (by kernel_rfl) ?_
 iterate 2 refine RW.v ?_
 refine RW.nil ?_
 refine W.rg [(1, .map (some b1)), (2, .int .i64 11), (3, .string ⟨#[102, 49, 50]⟩), (5, .agg #[.string ⟨#[102, 49]⟩, .string ⟨#[102, 50]⟩, .string ⟨#[102, 51]⟩, .string ⟨#[102, 52]⟩, .string ⟨#[102, 53]⟩, .string ⟨#[102, 54]⟩, .string ⟨#[102, 55]⟩, .string ⟨#[102, 56]⟩, .string ⟨#[102, 57]⟩, .string ⟨#[102, 49, 48]⟩, .string ⟨#[102, 49, 49]⟩, .string ⟨#[102, 49, 50]⟩, .string ⟨#[117, 112]⟩, .string ⟨#[100, 111, 119, 110]⟩, .string ⟨#[108, 101, 102, 116]⟩, .string ⟨#[114, 105, 103, 104, 116]⟩, .string ⟨#[104, 111, 109, 101]⟩, .string ⟨#[101, 110, 100]⟩, .string ⟨#[112, 114, 105, 111, 114]⟩, .string ⟨#[110, 101, 120, 116]⟩, .string ⟨#[105, 110, 115, 101, 114, 116]⟩, .string ⟨#[100, 101, 108, 101, 116, 101]⟩, .string ⟨#[98, 97, 99, 107, 115, 112, 97, 99, 101]⟩, .string ⟨#[114, 101, 116, 117, 114, 110]⟩, .string ⟨#[116, 97, 98]⟩, .string ⟨#[101, 115, 99, 97, 112, 101]⟩, .string ⟨#[98, 97, 99, 107, 116, 97, 98]⟩]), (6, .int .i64 11)] fun TA => ?_
 refine W.region ?_
 iterate 4 refine RW.v ?_
 refine RW.upL H 0 [(.string ⟨#[102, 49]⟩, .int .i64 2097153), (.string ⟨#[102, 50]⟩, .int .i64 2097154), (.string ⟨#[102, 51]⟩, .int .i64 2097155), (.string ⟨#[102, 52]⟩, .int .i64 2097156), (.string ⟨#[102, 53]⟩, .int .i64 2097157), (.string ⟨#[102, 54]⟩, .int .i64 2097158), (.string ⟨#[102, 55]⟩, .int .i64 2097159), (.string ⟨#[102, 56]⟩, .int .i64 2097160), (.string ⟨#[102, 57]⟩, .int .i64 2097161), (.string ⟨#[102, 49, 48]⟩, .int .i64 2097162), (.string ⟨#[102, 49, 49]⟩, .int .i64 2097163), (.string ⟨#[102, 49, 50]⟩, .int .i64 2097164)] 12 ?_
 clear H; intro _ _ H; dsimp only [setL, delL] at H
 refine RW.nil ?_
 refine blkQ_normal ?_
 refine W.rg [(1, .map (some b1)), (5, .agg #[.string ⟨#[102, 49]⟩, .string ⟨#[102, 50]⟩, .string ⟨#[102, 51]⟩, .string ⟨#[102, 52]⟩, .string ⟨#[102, 53]⟩, .string ⟨#[102, 54]⟩, .string ⟨#[102, 55]⟩, .string ⟨#[102, 56]⟩, .string ⟨#[102, 57]⟩, .string ⟨#[102, 49, 48]⟩, .string ⟨#[102, 49, 49]⟩, .string ⟨#[102, 49, 50]⟩, .string ⟨#[117, 112]⟩, .string ⟨#[100, 111, 119, 110]⟩, .string ⟨#[108, 101, 102, 116]⟩, .string ⟨#[114, 105, 103, 104, 116]⟩, .string ⟨#[104, 111, 109, 101]⟩, .string ⟨#[101, 110, 100]⟩, .string ⟨#[112, 114, 105, 111, 114]⟩, .string ⟨#[110, 101, 120, 116]⟩, .string ⟨#[105, 110, 115, 101, 114, 116]⟩, .string ⟨#[100, 101, 108, 101, 116, 101]⟩, .string ⟨#[98, 97, 99, 107, 115, 112, 97, 99, 101]⟩, .string ⟨#[114, 101, 116, 117, 114, 110]⟩, .string ⟨#[116, 97, 98]⟩, .string ⟨#[101, 115, 99, 97, 112, 101]⟩, .string ⟨#[98, 97, 99, 107, 116, 97, 98]⟩]), (6, .int .i64 11)] fun TA => ?_
 refine W.region ?_
 iterate 2 refine RW.v ?_
 refine RW.nil ?_
 refine WL.once ?_
 refine W.rg [(1, .map (some b1)), (5, .agg #[.string ⟨#[102, 49]⟩, .string ⟨#[102, 50]⟩, .string ⟨#[102, 51]⟩, .string ⟨#[102, 52]⟩, .string ⟨#[102, 53]⟩, .string ⟨#[102, 54]⟩, .string ⟨#[102, 55]⟩, .string ⟨#[102, 56]⟩, .string ⟨#[102, 57]⟩, .string ⟨#[102, 49, 48]⟩, .string ⟨#[102, 49, 49]⟩, .string ⟨#[102, 49, 50]⟩, .string ⟨#[117, 112]⟩, .string ⟨#[100, 111, 119, 110]⟩, .string ⟨#[108, 101, 102, 116]⟩, .string ⟨#[114, 105, 103, 104, 116]⟩, .string ⟨#[104, 111, 109, 101]⟩, .string ⟨#[101, 110, 100]⟩, .string ⟨#[112, 114, 105, 111, 114]⟩, .string ⟨#[110, 101, 120, 116]⟩, .string ⟨#[105, 110, 115, 101, 114, 116]⟩, .string ⟨#[100, 101, 108, 101, 116, 101]⟩, .string ⟨#[98, 97, 99, 107, 115, 112, 97, 99, 101]⟩, .string ⟨#[114, 101, 116, 117, 114, 110]⟩, .string ⟨#[116, 97, 98]⟩, .string ⟨#[101, 115, 99, 97, 112, 101]⟩, .string ⟨#[98, 97, 99, 107, 116, 97, 98]⟩]), (6, .int .i64 12)] fun TA => ?_
 refine W.seq (W.region ?_)
 refine RW.v ?_
 refine RW.nil ?_
 refine W.rg [(1, .map (some b1)), (5, .agg #[.string ⟨#[102, 49]⟩, .string ⟨#[102, 50]⟩, .string ⟨#[102, 51]⟩, .string ⟨#[102, 52]⟩, .string ⟨#[102, 53]⟩, .string ⟨#[102, 54]⟩, .string ⟨#[102, 55]⟩, .string ⟨#[102, 56]⟩, .string ⟨#[102, 57]⟩, .string ⟨#[102, 49, 48]⟩, .string ⟨#[102, 49, 49]⟩, .string ⟨#[102, 49, 50]⟩, .string ⟨#[117, 112]⟩, .string ⟨#[100, 111, 119, 110]⟩, .string ⟨#[108, 101, 102, 116]⟩, .string ⟨#[114, 105, 103, 104, 116]⟩, .string ⟨#[104, 111, 109, 101]⟩, .string ⟨#[101, 110, 100]⟩, .string ⟨#[112, 114, 105, 111, 114]⟩, .string ⟨#[110, 101, 120, 116]⟩, .string ⟨#[105, 110, 115, 101, 114, 116]⟩, .string ⟨#[100, 101, 108, 101, 116, 101]⟩, .string ⟨#[98, 97, 99, 107, 115, 112, 97, 99, 101]⟩, .string ⟨#[114, 101, 116, 117, 114, 110]⟩, .string ⟨#[116, 97, 98]⟩, .string ⟨#[101, 115, 99, 97, 112, 101]⟩, .string ⟨#[98, 97, 99, 107, 116, 97, 98]⟩]), (6, .int .i64 12), (7, .bool true)] fun TA => ?_
 refine W.seq ?_
 refine W.c1 ?_
 refine W.skip ?_
 refine W.seq ?_
 refine W.block ?_
 refine W.seq (W.region ?_)
 refine RW.v ?_
 refine RW.val (v := .string ⟨#[117, 112]⟩) (by kernel_rfl) (by kernel_rfl) (by kernel_rfl) (by kernel_rfl) ?_
 iterate 2 refine RW.v ?_
 refine RW.nil ?_
 refine W.rg [(1, .map (some b1)), (2, .int .i64 12), (3, .string ⟨#[117, 112]⟩), (5, .agg #[.string ⟨#[102, 49]⟩, .string ⟨#[102, 50]⟩, .string ⟨#[102, 51]⟩, .string ⟨#[102, 52]⟩, .string ⟨#[102, 53]⟩, .string ⟨#[102, 54]⟩, .string ⟨#[102, 55]⟩, .string ⟨#[102, 56]⟩, .string ⟨#[102, 57]⟩, .string ⟨#[102, 49, 48]⟩, .string ⟨#[102, 49, 49]⟩, .string ⟨#[102, 49, 50]⟩, .string ⟨#[117, 112]⟩, .string ⟨#[100, 111, 119, 110]⟩, .string ⟨#[108, 101, 102, 116]⟩, .string ⟨#[114, 105, 103, 104, 116]⟩, .string ⟨#[104, 111, 109, 101]⟩, .string ⟨#[101, 110, 100]⟩, .string ⟨#[112, 114, 105, 111, 114]⟩, .string ⟨#[110, 101, 120, 116]⟩, .string ⟨#[105, 110, 115, 101, 114, 116]⟩, .string ⟨#[100, 101, 108, 101, 116, 101]⟩, .string ⟨#[98, 97, 99, 107, 115, 112, 97, 99, 101]⟩, .string ⟨#[114, 101, 116, 117, 114, 110]⟩, .string ⟨#[116, 97, 98]⟩, .string ⟨#[101, 115, 99, 97, 112, 101]⟩, .string ⟨#[98, 97, 99, 107, 116, 97, 98]⟩]), (6, .int .i64 12)] fun TA => ?_
 refine W.region ?_
 iterate 4 refine RW.v ?_
 refine RW.upL H 0 [(.string ⟨#[102, 49]⟩, .int .i64 2097153), (.string ⟨#[102, 50]⟩, .int .i64 2097154), (.string ⟨#[102, 51]⟩, .int .i64 2097155), (.string ⟨#[102, 52]⟩, .int .i64 2097156), (.string ⟨#[102, 53]⟩, .int .i64 2097157), (.string ⟨#[102, 54]⟩, .int .i64 2097158), (.string ⟨#[102, 55]⟩, .int .i64 2097159), (.string ⟨#[102, 56]⟩, .int .i64 2097160), (.string ⟨#[102, 57]⟩, .int .i64 2097161), (.string ⟨#[102, 49, 48]⟩, .int .i64 2097162), (.string ⟨#[102, 49, 49]⟩, .int .i64 2097163), (.string ⟨#[102, 49, 50]⟩, .int .i64 2097164), (.string ⟨#[117, 112]⟩, .int .i64 2097165)] 13 ?_
 clear H; intro _ _ H; dsimp only [setL, delL] at H
 refine RW.nil ?_
 refine blkQ_normal ?_
 refine W.rg [(1, .map (some b1)), (5, .agg #[.string ⟨#[102, 49]⟩, .string ⟨#[102, 50]⟩, .string ⟨#[102, 51]⟩, .string ⟨#[102, 52]⟩, .string ⟨#[102, 53]⟩, .string ⟨#[102, 54]⟩, .string ⟨#[102, 55]⟩, .string ⟨#[102, 56]⟩, .string ⟨#[102, 57]⟩, .string ⟨#[102, 49, 48]⟩, .string ⟨#[102, 49, 49]⟩, .string ⟨#[102, 49, 50]⟩, .string ⟨#[117, 112]⟩, .string ⟨#[100, 111, 119, 110]⟩, .string ⟨#[108, 101, 102, 116]⟩, .string ⟨#[114, 105, 103, 104, 116]⟩, .string ⟨#[104, 111, 109, 101]⟩, .string ⟨#[101, 110, 100]⟩, .string ⟨#[112, 114, 105, 111, 114]⟩, .string ⟨#[110, 101, 120, 116]⟩, .string ⟨#[105, 110, 115, 101, 114, 116]⟩, .string ⟨#[100, 101, 108, 101, 116, 101]⟩, .string ⟨#[98, 97, 99, 107, 115, 112, 97, 99, 101]⟩, .string ⟨#[114, 101, 116, 117, 114, 110]⟩, .string ⟨#[116, 97, 98]⟩, .string ⟨#[101, 115, 99, 97, 112, 101]⟩, .string ⟨#[98, 97, 99, 107, 116, 97, 98]⟩]), (6, .int .i64 12)] fun TA => ?_
 refine W.region ?_
 iterate 2 refine RW.v ?_
 refine RW.nil ?_
 refine WL.once ?_
 refine W.rg [(1, .map (some b1)), (5, .agg #[.string ⟨#[102, 49]⟩, .string ⟨#[102, 50]⟩, .string ⟨#[102, 51]⟩, .string ⟨#[102, 52]⟩, .string ⟨#[102, 53]⟩, .string ⟨#[102, 54]⟩, .string ⟨#[102, 55]⟩, .string ⟨#[102, 56]⟩, .string ⟨#[102, 57]⟩, .string ⟨#[102, 49, 48]⟩, .string ⟨#[102, 49, 49]⟩, .string ⟨#[102, 49, 50]⟩, .string ⟨#[117, 112]⟩, .string ⟨#[100, 111, 119, 110]⟩, .string ⟨#[108, 101, 102, 116]⟩, .string ⟨#[114, 105, 103, 104, 116]⟩, .string ⟨#[104, 111, 109, 101]⟩, .string ⟨#[101, 110, 100]⟩, .string ⟨#[112, 114, 105, 111, 114]⟩, .string ⟨#[110, 101, 120, 116]⟩, .string ⟨#[105, 110, 115, 101, 114, 116]⟩, .string ⟨#[100, 101, 108, 101, 116, 101]⟩, .string ⟨#[98, 97, 99, 107, 115, 112, 97, 99, 101]⟩, .string ⟨#[114, 101, 116, 117, 114, 110]⟩, .string ⟨#[116, 97, 98]⟩, .string ⟨#[101, 115, 99, 97, 112, 101]⟩, .string ⟨#[98, 97, 99, 107, 116, 97, 98]⟩]), (6, .int .i64 13)] fun TA => ?_
 refine W.seq (W.region ?_)
 refine RW.v ?_
 refine RW.nil ?_
 refine W.rg [(1, .map (some b1)), (5, .agg #[.string ⟨#[102, 49]⟩, .string ⟨#[102, 50]⟩, .string ⟨#[102, 51]⟩, .string ⟨#[102, 52]⟩, .string ⟨#[102, 53]⟩, .string ⟨#[102, 54]⟩, .string ⟨#[102, 55]⟩, .string ⟨#[102, 56]⟩, .string ⟨#[102, 57]⟩, .string ⟨#[102, 49, 48]⟩, .string ⟨#[102, 49, 49]⟩, .string ⟨#[102, 49, 50]⟩, .string ⟨#[117, 112]⟩, .string ⟨#[100, 111, 119, 110]⟩, .string ⟨#[108, 101, 102, 116]⟩, .string ⟨#[114, 105, 103, 104, 116]⟩, .string ⟨#[104, 111, 109, 101]⟩, .string ⟨#[101, 110, 100]⟩, .string ⟨#[112, 114, 105, 111, 114]⟩, .string ⟨#[110, 101, 120, 116]⟩, .string ⟨#[105, 110, 115, 101, 114, 116]⟩, .string ⟨#[100, 101, 108, 101, 116, 101]⟩, .string ⟨#[98, 97, 99, 107, 115, 112, 97, 99, 101]⟩, .string ⟨#[114, 101, 116, 117, 114, 110]⟩, .string ⟨#[116, 97, 98]⟩, .string ⟨#[101, 115, 99, 97, 112, 101]⟩, .string ⟨#[98, 97, 99, 107, 116, 97, 98]⟩]), (6, .int .i64 13), (7, .bool true)] fun TA => ?_
 refine W.seq ?_
 refine W.c1 ?_
 refine W.skip ?_
 refine W.seq ?_
 refine W.block ?_
 refine W.seq (W.region ?_)
 refine RW.v ?_
 refine RW.val (v := .string ⟨#[100, 111, 119, 110]⟩) (by kernel_rfl) (by kernel_rfl) (by kernel_rfl) (by kernel_rfl) ?_
 iterate 2 refine RW.v ?_
 refine RW.nil ?_
 refine W.rg [(1, .map (some b1)), (2, .int .i64 13), (3, .string ⟨#[100, 111, 119, 110]⟩), (5, .agg #[.string ⟨#[102, 49]⟩, .string ⟨#[102, 50]⟩, .string ⟨#[102, 51]⟩, .string ⟨#[102, 52]⟩, .string ⟨#[102, 53]⟩, .string ⟨#[102, 54]⟩, .string ⟨#[102, 55]⟩, .string ⟨#[102, 56]⟩, .string ⟨#[102, 57]⟩, .string ⟨#[102, 49, 48]⟩, .string ⟨#[102, 49, 49]⟩, .string ⟨#[102, 49, 50]⟩, .string ⟨#[117, 112]⟩, .string ⟨#[100, 111, 119, 110]⟩, .string ⟨#[108, 101, 102, 116]⟩, .string ⟨#[114, 105, 103, 104, 116]⟩, .string ⟨#[104, 111, 109, 101]⟩, .string ⟨#[101, 110, 100]⟩, .string ⟨#[112, 114, 105, 111, 114]⟩, .string ⟨#[110, 101, 120, 116]⟩, .string ⟨#[105, 110, 115, 101, 114, 116]⟩, .string ⟨#[100, 101, 108, 101, 116, 101]⟩, .string ⟨#[98, 97, 99, 107, 115, 112, 97, 99, 101]⟩, .string ⟨#[114, 101, 116, 117, 114, 110]⟩, .string ⟨#[116, 97, 98]⟩, .string ⟨#[101, 115, 99, 97, 112, 101]⟩, .string ⟨#[98, 97, 99, 107, 116, 97, 98]⟩]), (6, .int .i64 13)] fun TA => ?_
 refine W.region ?_
 iterate 4 refine RW.v ?_
 refine RW.upL H 0 [(.string ⟨#[102, 49]⟩, .int .i64 2097153), (.string ⟨#[102, 50]⟩, .int .i64 2097154), (.string ⟨#[102, 51]⟩, .int .i64 2097155), (.string ⟨#[102, 52]⟩, .int .i64 2097156), (.string ⟨#[102, 53]⟩, .int .i64 2097157), (.string ⟨#[102, 54]⟩, .int .i64 2097158), (.string ⟨#[102, 55]⟩, .int .i64 2097159), (.string ⟨#[102, 56]⟩, .int .i64 2097160), (.string ⟨#[102, 57]⟩, .int .i64 2097161), (.string ⟨#[102, 49, 48]⟩, .int .i64 2097162), (.string ⟨#[102, 49, 49]⟩, .int .i64 2097163), (.string ⟨#[102, 49, 50]⟩, .int .i64 2097164), (.string ⟨#[117, 112]⟩, .int .i64 2097165), (.string ⟨#[100, 111, 119, 110]⟩, .int .i64 2097166)] 14 ?_
 clear H; intro _ _ H; dsimp only [setL, delL] at H
 refine RW.nil ?_
 refine blkQ_normal ?_
 refine W.rg [(1, .map (some b1)), (5, .agg #[.string ⟨#[102, 49]⟩, .string ⟨#[102, 50]⟩, .string ⟨#[102, 51]⟩, .string ⟨#[102, 52]⟩, .string ⟨#[102, 53]⟩, .string ⟨#[102, 54]⟩, .string ⟨#[102, 55]⟩, .string ⟨#[102, 56]⟩, .string ⟨#[102, 57]⟩, .string ⟨#[102, 49, 48]⟩, .string ⟨#[102, 49, 49]⟩, .string ⟨#[102, 49, 50]⟩, .string ⟨#[117, 112]⟩, .string ⟨#[100, 111, 119, 110]⟩, .string ⟨#[108, 101, 102, 116]⟩, .string ⟨#[114, 105, 103, 104, 116]⟩, .string ⟨#[104, 111, 109, 101]⟩, .string ⟨#[101, 110, 100]⟩, .string ⟨#[112, 114, 105, 111, 114]⟩, .string ⟨#[110, 101, 120, 116]⟩, .string ⟨#[105, 110, 115, 101, 114, 116]⟩, .string ⟨#[100, 101, 108, 101, 116, 101]⟩, .string ⟨#[98, 97, 99, 107, 115, 112, 97, 99, 101]⟩, .string ⟨#[114, 101, 116, 117, 114, 110]⟩, .string ⟨#[116, 97, 98]⟩, .string ⟨#[101, 115, 99, 97, 112, 101]⟩, .string ⟨#[98, 97, 99, 107, 116, 97, 98]⟩]), (6, .int .i64 13)] fun TA => ?_
 refine W.region ?_
 iterate 2 refine RW.v ?_
 refine RW.nil ?_
 refine WL.once ?_
 refine W.rg [(1, .map (some b1)), (5, .agg #[.string ⟨#[102, 49]⟩, .string ⟨#[102, 50]⟩, .string ⟨#[102, 51]⟩, .string ⟨#[102, 52]⟩, .string ⟨#[102, 53]⟩, .string ⟨#[102, 54]⟩, .string ⟨#[102, 55]⟩, .string ⟨#[102, 56]⟩, .string ⟨#[102, 57]⟩, .string ⟨#[102, 49, 48]⟩, .string ⟨#[102, 49, 49]⟩, .string ⟨#[102, 49, 50]⟩, .string ⟨#[117, 112]⟩, .string ⟨#[100, 111, 119, 110]⟩, .string ⟨#[108, 101, 102, 116]⟩, .string ⟨#[114, 105, 103, 104, 116]⟩, .string ⟨#[104, 111, 109, 101]⟩, .string ⟨#[101, 110, 100]⟩, .string ⟨#[112, 114, 105, 111, 114]⟩, .string ⟨#[110, 101, 120, 116]⟩, .string ⟨#[105, 110, 115, 101, 114, 116]⟩, .string ⟨#[100, 101, 108, 101, 116, 101]⟩, .string ⟨#[98, 97, 99, 107, 115, 112, 97, 99, 101]⟩, .string ⟨#[114, 101, 116, 117, 114, 110]⟩, .string ⟨#[116, 97, 98]⟩, .string ⟨#[101, 115, 99, 97, 112, 101]⟩, .string ⟨#[98, 97, 99, 107, 116, 97, 98]⟩]), (6, .int .i64 14)] fun TA => ?_
 refine W.seq (W.region ?_)
 refine RW.v ?_
 refine RW.nil ?_
 refine W.rg [(1, .map (some b1)), (5, .agg #[.string ⟨#[102, 49]⟩, .string ⟨#[102, 50]⟩, .string ⟨#[102, 51]⟩, .string ⟨#[102, 52]⟩, .string ⟨#[102, 53]⟩, .string ⟨#[102, 54]⟩, .string ⟨#[102, 55]⟩, .string ⟨#[102, 56]⟩, .string ⟨#[102, 57]⟩, .string ⟨#[102, 49, 48]⟩, .string ⟨#[102, 49, 49]⟩, .string ⟨#[102, 49, 50]⟩, .string ⟨#[117, 112]⟩, .string ⟨#[100, 111, 119, 110]⟩, .string ⟨#[108, 101, 102, 116]⟩, .string ⟨#[114, 105, 103, 104, 116]⟩, .string ⟨#[104, 111, 109, 101]⟩, .string ⟨#[101, 110, 100]⟩, .string ⟨#[112, 114, 105, 111, 114]⟩, .string ⟨#[110, 101, 120, 116]⟩, .string ⟨#[105, 110, 115, 101, 114, 116]⟩, .string ⟨#[100, 101, 108, 101, 116, 101]⟩, .string ⟨#[98, 97, 99, 107, 115, 112, 97, 99, 101]⟩, .string ⟨#[114, 101, 116, 117, 114, 110]⟩, .string ⟨#[116, 97, 98]⟩, .string ⟨#[101, 115, 99, 97, 112, 101]⟩, .string ⟨#[98, 97, 99, 107, 116, 97, 98]⟩]), (6, .int .i64 14), (7, .bool true)] fun TA => ?_
 refine W.seq ?_
 refine W.c1 ?_
 refine W.skip ?_
 refine W.seq ?_
 refine W.block ?_
 refine W.seq (W.region ?_)
 refine RW.v ?_
 refine RW.val (v := .string ⟨#[108, 101, 102, 116]⟩) (by kernel_rfl) (by kernel_rfl) (by kernel_rfl) (by kernel_rfl) ?_
 iterate 2 refine RW.v ?_
 refine RW.nil ?_
 refine W.rg [(1, .map (some b1)), (2, .int .i64 14), (3, .string ⟨#[108, 101, 102, 116]⟩), (5, .agg #[.string ⟨#[102, 49]⟩, .string ⟨#[102, 50]⟩, .string ⟨#[102, 51]⟩, .string ⟨#[102, 52]⟩, .string ⟨#[102, 53]⟩, .string ⟨#[102, 54]⟩, .string ⟨#[102, 55]⟩, .string ⟨#[102, 56]⟩, .string ⟨#[102, 57]⟩, .string ⟨#[102, 49, 48]⟩, .string ⟨#[102, 49, 49]⟩, .string ⟨#[102, 49, 50]⟩, .string ⟨#[117, 112]⟩, .string ⟨#[100, 111, 119, 110]⟩, .string ⟨#[108, 101, 102, 116]⟩, .string ⟨#[114, 105, 103, 104, 116]⟩, .string ⟨#[104, 111, 109, 101]⟩, .string ⟨#[101, 110, 100]⟩, .string ⟨#[112, 114, 105, 111, 114]⟩, .string ⟨#[110, 101, 120, 116]⟩, .string ⟨#[105, 110, 115, 101, 114, 116]⟩, .string ⟨#[100, 101, 108, 101, 116, 101]⟩, .string ⟨#[98, 97, 99, 107, 115, 112, 97, 99, 101]⟩, .string ⟨#[114, 101, 116, 117, 114, 110]⟩, .string ⟨#[116, 97, 98]⟩, .string ⟨#[101, 115, 99, 97, 112, 101]⟩, .string ⟨#[98, 97, 99, 107, 116, 97, 98]⟩]), (6, .int .i64 14)] fun TA => ?_
 refine W.region ?_
 iterate 4 refine RW.v ?_
 refine RW.upL H 0 [(.string ⟨#[102, 49]⟩, .int .i64 2097153), (.string ⟨#[102, 50]⟩, .int .i64 2097154), (.string ⟨#[102, 51]⟩, .int .i64 2097155), (.string ⟨#[102, 52]⟩, .int .i64 2097156), (.string ⟨#[102, 53]⟩, .int .i64 2097157), (.string ⟨#[102, 54]⟩, .int .i64 2097158), (.string ⟨#[102, 55]⟩, .int .i64 2097159), (.string ⟨#[102, 56]⟩, .int .i64 2097160), (.string ⟨#[102, 57]⟩, .int .i64 2097161), (.string ⟨#[102, 49, 48]⟩, .int .i64 2097162), (.string ⟨#[102, 49, 49]⟩, .int .i64 2097163), (.string ⟨#[102, 49, 50]⟩, .int .i64 2097164), (.string ⟨#[117, 112]⟩, .int .i64 2097165), (.string ⟨#[100, 111, 119, 110]⟩, .int .i64 2097166), (.string ⟨#[108, 101, 102, 116]⟩, .int .i64 2097167)] 15 ?_
 clear H; intro _ _ H; dsimp only [setL, delL] at H
 refine RW.nil ?_
 refine blkQ_normal ?_
 refine W.rg [(1, .map (some b1)), (5, .agg #[.string ⟨#[102, 49]⟩, .string ⟨#[102, 50]⟩, .string ⟨#[102, 51]⟩, .string ⟨#[102, 52]⟩, .string ⟨#[102, 53]⟩, .string ⟨#[102, 54]⟩, .string ⟨#[102, 55]⟩, .string ⟨#[102, 56]⟩, .string ⟨#[102, 57]⟩, .string ⟨#[102, 49, 48]⟩, .string ⟨#[102, 49, 49]⟩, .string ⟨#[102, 49, 50]⟩, .string ⟨#[117, 112]⟩, .string ⟨#[100, 111, 119, 110]⟩, .string ⟨#[108, 101, 102, 116]⟩, .string ⟨#[114, 105, 103, 104, 116]⟩, .string ⟨#[104, 111, 109, 101]⟩, .string ⟨#[101, 110, 100]⟩, .string ⟨#[112, 114, 105, 111, 114]⟩, .string ⟨#[110, 101, 120, 116]⟩, .string ⟨#[105, 110, 115, 101, 114, 116]⟩, .string ⟨#[100, 101, 108, 101, 116, 101]⟩, .string ⟨#[98, 97, 99, 107, 115, 112, 97, 99, 101]⟩, .string ⟨#[114, 101, 116, 117, 114, 110]⟩, .string ⟨#[116, 97, 98]⟩, .string ⟨#[101, 115, 99, 97, 112, 101]⟩, .string ⟨#[98, 97, 99, 107, 116, 97, 98]⟩]), (6, .int .i64 14)] fun TA => ?_
 refine W.region ?_
 iterate 2 refine RW.v ?_
 refine RW.nil ?_
 refine WL.once ?_
 refine W.rg [(1, .map (some b1)), (5, .agg #[.string ⟨#[102, 49]⟩, .string ⟨#[102, 50]⟩, .string ⟨#[102, 51]⟩, .string ⟨#[102, 52]⟩, .string ⟨#[102, 53]⟩, .string ⟨#[102, 54]⟩, .string ⟨#[102, 55]⟩, .string ⟨#[102, 56]⟩, .string ⟨#[102, 57]⟩, .string ⟨#[102, 49, 48]⟩, .string ⟨#[102, 49, 49]⟩, .string ⟨#[102, 49, 50]⟩, .string ⟨#[117, 112]⟩, .string ⟨#[100, 111, 119, 110]⟩, .string ⟨#[108, 101, 102, 116]⟩, .string ⟨#[114, 105, 103, 104, 116]⟩, .string ⟨#[104, 111, 109, 101]⟩, .string ⟨#[101, 110, 100]⟩, .string ⟨#[112, 114, 105, 111, 114]⟩, .string ⟨#[110, 101, 120, 116]⟩, .string ⟨#[105, 110, 115, 101, 114, 116]⟩, .string ⟨#[100, 101, 108, 101, 116, 101]⟩, .string ⟨#[98, 97, 99, 107, 115, 112, 97, 99, 101]⟩, .string ⟨#[114, 101, 116, 117, 114, 110]⟩, .string ⟨#[116, 97, 98]⟩, .string ⟨#[101, 115, 99, 97, 112, 101]⟩, .string ⟨#[98, 97, 99, 107, 116, 97, 98]⟩]), (6, .int .i64 15)] fun TA => ?_
 refine W.seq (W.region ?_)
 refine RW.v ?_
 refine RW.nil ?_
 refine W.rg [(1, .map (some b1)), (5, .agg #[.string ⟨#[102, 49]⟩, .string ⟨#[102, 50]⟩, .string ⟨#[102, 51]⟩, .string ⟨#[102, 52]⟩, .string ⟨#[102, 53]⟩, .string ⟨#[102, 54]⟩, .string ⟨#[102, 55]⟩, .string ⟨#[102, 56]⟩, .string ⟨#[102, 57]⟩, .string ⟨#[102, 49, 48]⟩, .string ⟨#[102, 49, 49]⟩, .string ⟨#[102, 49, 50]⟩, .string ⟨#[117, 112]⟩, .string ⟨#[100, 111, 119, 110]⟩, .string ⟨#[108, 101, 102, 116]⟩, .string ⟨#[114, 105, 103, 104, 116]⟩, .string ⟨#[104, 111, 109, 101]⟩, .string ⟨#[101, 110, 100]⟩, .string ⟨#[112, 114, 105, 111, 114]⟩, .string ⟨#[110, 101, 120, 116]⟩, .string ⟨#[105, 110, 115, 101, 114, 116]⟩, .string ⟨#[100, 101, 108, 101, 116, 101]⟩, .string ⟨#[98, 97, 99, 107, 115, 112, 97, 99, 101]⟩, .string ⟨#[114, 101, 116, 117, 114, 110]⟩, .string ⟨#[116, 97, 98]⟩, .string ⟨#[101, 115, 99, 97, 112, 101]⟩, .string ⟨#[98, 97, 99, 107, 116, 97, 98]⟩]), (6, .int .i64 15), (7, .bool true)] fun TA => ?_
 refine W.seq ?_
 refine W.c1 ?_
 refine W.skip ?_
 refine W.seq ?_
 refine W.block ?_
 refine W.seq (W.region ?_)
 refine RW.v ?_
 refine RW.val (v := .string ⟨#[114, 105, 103, 104, 116]⟩) (by kernel_rfl) (by kernel_rfl) (by kernel_rfl) (by kernel_rfl) ?_
 iterate 2 refine RW.v ?_
 refine RW.nil ?_
 refine W.rg [(1, .map (some b1)), (2, .int .i64 15), (3, .string ⟨#[114, 105, 103, 104, 116]⟩), (5, .agg #[.string ⟨#[102, 49]⟩, .string ⟨#[102, 50]⟩, .string ⟨#[102, 51]⟩, .string ⟨#[102, 52]⟩, .string ⟨#[102, 53]⟩, .string ⟨#[102, 54]⟩, .string ⟨#[102, 55]⟩, .string ⟨#[102, 56]⟩, .string ⟨#[102, 57]⟩, .string ⟨#[102, 49, 48]⟩, .string ⟨#[102, 49, 49]⟩, .string ⟨#[102, 49, 50]⟩, .string ⟨#[117, 112]⟩, .string ⟨#[100, 111, 119, 110]⟩, .string ⟨#[108, 101, 102, 116]⟩, .string ⟨#[114, 105, 103, 104, 116]⟩, .string ⟨#[104, 111, 109, 101]⟩, .string ⟨#[101, 110, 100]⟩, .string ⟨#[112, 114, 105, 111, 114]⟩, .string ⟨#[110, 101, 120, 116]⟩, .string ⟨#[105, 110, 115, 101, 114, 116]⟩, .string ⟨#[100, 101, 108, 101, 116, 101]⟩, .string ⟨#[98, 97, 99, 107, 115, 112, 97, 99, 101]⟩, .string ⟨#[114, 101, 116, 117, 114, 110]⟩, .string ⟨#[116, 97, 98]⟩, .string ⟨#[101, 115, 99, 97, 112, 101]⟩, .string ⟨#[98, 97, 99, 107, 116, 97, 98]⟩]), (6, .int .i64 15)] fun TA => ?_
 refine W.region ?_
 iterate 4 refine RW.v ?_
 refine RW.upL H 0 [(.string ⟨#[102, 49]⟩, .int .i64 2097153), (.string ⟨#[102, 50]⟩, .int .i64 2097154), (.string ⟨#[102, 51]⟩, .int .i64 2097155), (.string ⟨#[102, 52]⟩, .int .i64 2097156), (.string ⟨#[102, 53]⟩, .int .i64 2097157), (.string ⟨#[102, 54]⟩, .int .i64 2097158), (.string ⟨#[102, 55]⟩, .int .i64 2097159), (.string ⟨#[102, 56]⟩, .int .i64 2097160), (.string ⟨#[102, 57]⟩, .int .i64 2097161), (.string ⟨#[102, 49, 48]⟩, .int .i64 2097162), (.string ⟨#[102, 49, 49]⟩, .int .i64 2097163), (.string ⟨#[102, 49, 50]⟩, .int .i64 2097164), (.string ⟨#[117, 112]⟩, .int .i64 2097165), (.string ⟨#[100, 111, 119, 110]⟩, .int .i64 2097166), (.string ⟨#[108, 101, 102, 116]⟩, .int .i64 2097167), (.string ⟨#[114, 105, 103, 104, 116]⟩, .int .i64 2097168)] 16 ?_
 clear H; intro _ _ H; dsimp only [setL, delL] at H
 refine RW.nil ?_
 refine blkQ_normal ?_
 refine W.rg [(1, .map (some b1)), (5, .agg #[.string ⟨#[102, 49]⟩, .string ⟨#[102, 50]⟩, .string ⟨#[102, 51]⟩, .string ⟨#[102, 52]⟩, .string ⟨#[102, 53]⟩, .string ⟨#[102, 54]⟩, .string ⟨#[102, 55]⟩, .string ⟨#[102, 56]⟩, .string ⟨#[102, 57]⟩, .string ⟨#[102, 49, 48]⟩, .string ⟨#[102, 49, 49]⟩, .string ⟨#[102, 49, 50]⟩, .string ⟨#[117, 112]⟩, .string ⟨#[100, 111, 119, 110]⟩, .string ⟨#[108, 101, 102, 116]⟩, .string ⟨#[114, 105, 103, 104, 116]⟩, .string ⟨#[104, 111, 109, 101]⟩, .string ⟨#[101, 110, 100]⟩, .string ⟨#[112, 114, 105, 111, 114]⟩, .string ⟨#[110, 101, 120, 116]⟩, .string ⟨#[105, 110, 115, 101, 114, 116]⟩, .string ⟨#[100, 101, 108, 101, 116, 101]⟩, .string ⟨#[98, 97, 99, 107, 115, 112, 97, 99, 101]⟩, .string ⟨#[114, 101, 116, 117, 114, 110]⟩, .string ⟨#[116, 97, 98]⟩, .string ⟨#[101, 115, 99, 97, 112, 101]⟩, .string ⟨#[98, 97, 99, 107, 116, 97, 98]⟩]), (6, .int .i64 15)] fun TA => ?_
 refine W.region ?_
 iterate 2 refine RW.v ?_
 refine RW.nil ?_
 refine WL.once ?_
 refine W.rg [(1, .map (some b1)), (5, .agg #[.string ⟨#[102, 49]⟩, .string ⟨#[102, 50]⟩, .string ⟨#[102, 51]⟩, .string ⟨#[102, 52]⟩, .string ⟨#[102, 53]⟩, .string ⟨#[102, 54]⟩, .string ⟨#[102, 55]⟩, .string ⟨#[102, 56]⟩, .string ⟨#[102, 57]⟩, .string ⟨#[102, 49, 48]⟩, .string ⟨#[102, 49, 49]⟩, .string ⟨#[102, 49, 50]⟩, .string ⟨#[117, 112]⟩, .string ⟨#[100, 111, 119, 110]⟩, .string ⟨#[108, 101, 102, 116]⟩, .string ⟨#[114, 105, 103, 104, 116]⟩, .string ⟨#[104, 111, 109, 101]⟩, .string ⟨#[101, 110, 100]⟩, .string ⟨#[112, 114, 105, 111, 114]⟩, .string ⟨#[110, 101, 120, 116]⟩, .string ⟨#[105, 110, 115, 101, 114, 116]⟩, .string ⟨#[100, 101, 108, 101, 116, 101]⟩, .string ⟨#[98, 97, 99, 107, 115, 112, 97, 99, 101]⟩, .string ⟨#[114, 101, 116, 117, 114, 110]⟩, .string ⟨#[116, 97, 98]⟩, .string ⟨#[101, 115, 99, 97, 112, 101]⟩, .string ⟨#[98, 97, 99, 107, 116, 97, 98]⟩]), (6, .int .i64 16)] fun TA => ?_
 refine W.seq (W.region ?_)
 refine RW.v ?_
 refine RW.nil ?_
 refine W.rg [(1, .map (some b1)), (5, .agg #[.string ⟨#[102, 49]⟩, .string ⟨#[102, 50]⟩, .string ⟨#[102, 51]⟩, .string ⟨#[102, 52]⟩, .string ⟨#[102, 53]⟩, .string ⟨#[102, 54]⟩, .string ⟨#[102, 55]⟩, .string ⟨#[102, 56]⟩, .string ⟨#[102, 57]⟩, .string ⟨#[102, 49, 48]⟩, .string ⟨#[102, 49, 49]⟩, .string ⟨#[102, 49, 50]⟩, .string ⟨#[117, 112]⟩, .string ⟨#[100, 111, 119, 110]⟩, .string ⟨#[108, 101, 102, 116]⟩, .string ⟨#[114, 105, 103, 104, 116]⟩, .string ⟨#[104, 111, 109, 101]⟩, .string ⟨#[101, 110, 100]⟩, .string ⟨#[112, 114, 105, 111, 114]⟩, .string ⟨#[110, 101, 120, 116]⟩, .string ⟨#[105, 110, 115, 101, 114, 116]⟩, .string ⟨#[100, 101, 108, 101, 116, 101]⟩, .string ⟨#[98, 97, 99, 107, 115, 112, 97, 99, 101]⟩, .string ⟨#[114, 101, 116, 117, 114, 110]⟩, .string ⟨#[116, 97, 98]⟩, .string ⟨#[101, 115, 99, 97, 112, 101]⟩, .string ⟨#[98, 97, 99, 107, 116, 97, 98]⟩]), (6, .int .i64 16), (7, .bool true)] fun TA => ?_
 refine W.seq ?_
 refine W.c1 ?_
 refine W.skip ?_
 refine W.seq ?_
 refine W.block ?_
 refine W.seq (W.region ?_)
 refine RW.v ?_
 refine RW.val (v := .string ⟨#[104, 111, 109, 101]⟩) (by kernel_rfl) (by kernel_rfl) (by kernel_rfl) (by kernel_rfl) ?_
 iterate 2 refine RW.v ?_
 refine RW.nil ?_
 refine W.rg [(1, .map (some b1)), (2, .int .i64 16), (3, .string ⟨#[104, 111, 109, 101]⟩), (5, .agg #[.string ⟨#[102, 49]⟩, .string ⟨#[102, 50]⟩, .string ⟨#[102, 51]⟩, .string ⟨#[102, 52]⟩, .string ⟨#[102, 53]⟩, .string ⟨#[102, 54]⟩, .string ⟨#[102, 55]⟩, .string ⟨#[102, 56]⟩, .string ⟨#[102, 57]⟩, .string ⟨#[102, 49, 48]⟩, .string ⟨#[102, 49, 49]⟩, .string ⟨#[102, 49, 50]⟩, .string ⟨#[117, 112]⟩, .string ⟨#[100, 111, 119, 110]⟩, .string ⟨#[108, 101, 102, 116]⟩, .string ⟨#[114, 105, 103, 104, 116]⟩, .string ⟨#[104, 111, 109, 101]⟩, .string ⟨#[101, 110, 100]⟩, .string ⟨#[112, 114, 105, 111, 114]⟩, .string ⟨#[110, 101, 120, 116]⟩, .string ⟨#[105, 110, 115, 101, 114, 116]⟩, .string ⟨#[100, 101, 108, 101, 116, 101]⟩, .string ⟨#[98, 97, 99, 107, 115, 112, 97, 99, 101]⟩, .string ⟨#[114, 101, 116, 117, 114, 110]⟩, .string ⟨#[116, 97, 98]⟩, .string ⟨#[101, 115, 99, 97, 112, 101]⟩, .string ⟨#[98, 97, 99, 107, 116, 97, 98]⟩]), (6, .int .i64 16)] fun TA => ?_
 refine W.region ?_
 iterate 4 refine RW.v ?_
 refine RW.upL H 0 [(.string ⟨#[102, 49]⟩, .int .i64 2097153), (.string ⟨#[102, 50]⟩, .int .i64 2097154), (.string ⟨#[102, 51]⟩, .int .i64 2097155), (.string ⟨#[102, 52]⟩, .int .i64 2097156), (.string ⟨#[102, 53]⟩, .int .i64 2097157), (.string ⟨#[102, 54]⟩, .int .i64 2097158), (.string ⟨#[102, 55]⟩, .int .i64 2097159), (.string ⟨#[102, 56]⟩, .int .i64 2097160), (.string ⟨#[102, 57]⟩, .int .i64 2097161), (.string ⟨#[102, 49, 48]⟩, .int .i64 2097162), (.string ⟨#[102, 49, 49]⟩, .int .i64 2097163), (.string ⟨#[102, 49, 50]⟩, .int .i64 2097164), (.string ⟨#[117, 112]⟩, .int .i64 2097165), (.string ⟨#[100, 111, 119, 110]⟩, .int .i64 2097166), (.string ⟨#[108, 101, 102, 116]⟩, .int .i64 2097167), (.string ⟨#[114, 105, 103, 104, 116]⟩, .int .i64 2097168), (.string ⟨#[104, 111, 109, 101]⟩, .int .i64 2097169)] 17 ?_
 clear H; intro _ _ H; dsimp only [setL, delL] at H
 refine RW.nil ?_
 refine blkQ_normal ?_
 refine W.rg [(1, .map (some b1)), (5, .agg #[.string ⟨#[102, 49]⟩, .string ⟨#[102, 50]⟩, .string ⟨#[102, 51]⟩, .string ⟨#[102, 52]⟩, .string ⟨#[102, 53]⟩, .string ⟨#[102, 54]⟩, .string ⟨#[102, 55]⟩, .string ⟨#[102, 56]⟩, .string ⟨#[102, 57]⟩, .string ⟨#[102, 49, 48]⟩, .string ⟨#[102, 49, 49]⟩, .string ⟨#[102, 49, 50]⟩, .string ⟨#[117, 112]⟩, .string ⟨#[100, 111, 119, 110]⟩, .string ⟨#[108, 101, 102, 116]⟩, .string ⟨#[114, 105, 103, 104, 116]⟩, .string ⟨#[104, 111, 109, 101]⟩, .string ⟨#[101, 110, 100]⟩, .string ⟨#[112, 114, 105, 111, 114]⟩, .string ⟨#[110, 101, 120, 116]⟩, .string ⟨#[105, 110, 115, 101, 114, 116]⟩, .string ⟨#[100, 101, 108, 101, 116, 101]⟩, .string ⟨#[98, 97, 99, 107, 115, 112, 97, 99, 101]⟩, .string ⟨#[114, 101, 116, 117, 114, 110]⟩, .string ⟨#[116, 97, 98]⟩, .string ⟨#[101, 115, 99, 97, 112, 101]⟩, .string ⟨#[98, 97, 99, 107, 116, 97, 98]⟩]), (6, .int .i64 16)] fun TA => ?_
 refine W.region ?_
 iterate 2 refine RW.v ?_
 refine RW.nil ?_
 refine WL.once ?_
 refine W.rg [(1, .map (some b1)), (5, .agg #[.string ⟨#[102, 49]⟩, .string ⟨#[102, 50]⟩, .string ⟨#[102, 51]⟩, .string ⟨#[102, 52]⟩, .string ⟨#[102, 53]⟩, .string ⟨#[102, 54]⟩, .string ⟨#[102, 55]⟩, .string ⟨#[102, 56]⟩, .string ⟨#[102, 57]⟩, .string ⟨#[102, 49, 48]⟩, .string ⟨#[102, 49, 49]⟩, .string ⟨#[102, 49, 50]⟩, .string ⟨#[117, 112]⟩, .string ⟨#[100, 111, 119, 110]⟩, .string ⟨#[108, 101, 102, 116]⟩, .string ⟨#[114, 105, 103, 104, 116]⟩, .string ⟨#[104, 111, 109, 101]⟩, .string ⟨#[101, 110, 100]⟩, .string ⟨#[112, 114, 105, 111, 114]⟩, .string ⟨#[110, 101, 120, 116]⟩, .string ⟨#[105, 110, 115, 101, 114, 116]⟩, .string ⟨#[100, 101, 108, 101, 116, 101]⟩, .string ⟨#[98, 97, 99, 107, 115, 112, 97, 99, 101]⟩, .string ⟨#[114, 101, 116, 117, 114, 110]⟩, .string ⟨#[116, 97, 98]⟩, .string ⟨#[101, 115, 99, 97, 112, 101]⟩, .string ⟨#[98, 97, 99, 107, 116, 97, 98]⟩]), (6, .int .i64 17)] fun TA => ?_
 refine W.seq (W.region ?_)
 refine RW.v ?_
 refine RW.nil ?_
 refine W.rg [(1, .map (some b1)), (5, .agg #[.string ⟨#[102, 49]⟩, .string ⟨#[102, 50]⟩, .string ⟨#[102, 51]⟩, .string ⟨#[102, 52]⟩, .string ⟨#[102, 53]⟩, .string ⟨#[102, 54]⟩, .string ⟨#[102, 55]⟩, .string ⟨#[102, 56]⟩, .string ⟨#[102, 57]⟩, .string ⟨#[102, 49, 48]⟩, .string ⟨#[102, 49, 49]⟩, .string ⟨#[102, 49, 50]⟩, .string ⟨#[117, 112]⟩, .string ⟨#[100, 111, 119, 110]⟩, .string ⟨#[108, 101, 102, 116]⟩, .string ⟨#[114, 105, 103, 104, 116]⟩, .string ⟨#[104, 111, 109, 101]⟩, .string ⟨#[101, 110, 100]⟩, .string ⟨#[112, 114, 105, 111, 114]⟩, .string ⟨#[110, 101, 120, 116]⟩, .string ⟨#[105, 110, 115, 101, 114, 116]⟩, .string ⟨#[100, 101, 108, 101, 116, 101]⟩, .string ⟨#[98, 97, 99, 107, 115, 112, 97, 99, 101]⟩, .string ⟨#[114, 101, 116, 117, 114, 110]⟩, .string ⟨#[116, 97, 98]⟩, .string ⟨#[101, 115, 99, 97, 112, 101]⟩, .string ⟨#[98, 97, 99, 107, 116, 97, 98]⟩]), (6, .int .i64 17), (7, .bool true)] fun TA => ?_
 refine W.seq ?_
 refine W.c1 ?_
 refine W.skip ?_
 refine W.seq ?_
 refine W.block ?_
 refine W.seq (W.region ?_)
 refine RW.v ?_
 refine RW.val (v := .string ⟨#[101, 110, 100]⟩) (by kernel_rfl) (by kernel_rfl) (by kernel_rfl) (by kernel_rfl) ?_
 iterate 2 refine RW.v ?_
 refine RW.nil ?_
 refine W.rg [(1, .map (some b1)), (2, .int .i64 17), (3, .string ⟨#[101, 110, 100]⟩), (5, .agg #[.string ⟨#[102, 49]⟩, .string ⟨#[102, 50]⟩, .string ⟨#[102, 51]⟩, .string ⟨#[102, 52]⟩, .string ⟨#[102, 53]⟩, .string ⟨#[102, 54]⟩, .string ⟨#[102, 55]⟩, .string ⟨#[102, 56]⟩, .string ⟨#[102, 57]⟩, .string ⟨#[102, 49, 48]⟩, .string ⟨#[102, 49, 49]⟩, .string ⟨#[102, 49, 50]⟩, .string ⟨#[117, 112]⟩, .string ⟨#[100, 111, 119, 110]⟩, .string ⟨#[108, 101, 102, 116]⟩, .string ⟨#[114, 105, 103, 104, 116]⟩, .string ⟨#[104, 111, 109, 101]⟩, .string ⟨#[101, 110, 100]⟩, .string ⟨#[112, 114, 105, 111, 114]⟩, .string ⟨#[110, 101, 120, 116]⟩, .string ⟨#[105, 110, 115, 101, 114, 116]⟩, .string ⟨#[100, 101, 108, 101, 116, 101]⟩, .string ⟨#[98, 97, 99, 107, 115, 112, 97, 99, 101]⟩, .string ⟨#[114, 101, 116, 117, 114, 110]⟩, .string ⟨#[116, 97, 98]⟩, .string ⟨#[101, 115, 99, 97, 112, 101]⟩, .string ⟨#[98, 97, 99, 107, 116, 97, 98]⟩]), (6, .int .i64 17)] fun TA => ?_
 refine W.region ?_
 iterate 4 refine RW.v ?_
 refine RW.upL H 0 [(.string ⟨#[102, 49]⟩, .int .i64 2097153), (.string ⟨#[102, 50]⟩, .int .i64 2097154), (.string ⟨#[102, 51]⟩, .int .i64 2097155), (.string ⟨#[102, 52]⟩, .int .i64 2097156), (.string ⟨#[102, 53]⟩, .int .i64 2097157), (.string ⟨#[102, 54]⟩, .int .i64 2097158), (.string ⟨#[102, 55]⟩, .int .i64 2097159), (.string ⟨#[102, 56]⟩, .int .i64 2097160), (.string ⟨#[102, 57]⟩, .int .i64 2097161), (.string ⟨#[102, 49, 48]⟩, .int .i64 2097162), (.string ⟨#[102, 49, 49]⟩, .int .i64 2097163), (.string ⟨#[102, 49, 50]⟩, .int .i64 2097164), (.string ⟨#[117, 112]⟩, .int .i64 2097165), (.string ⟨#[100, 111, 119, 110]⟩, .int .i64 2097166), (.string ⟨#[108, 101, 102, 116]⟩, .int .i64 2097167), (.string ⟨#[114, 105, 103, 104, 116]⟩, .int .i64 2097168), (.string ⟨#[104, 111, 109, 101]⟩, .int .i64 2097169), (.string ⟨#[101, 110, 100]⟩, .int .i64 2097170)] 18 ?_
 clear H; intro _ _ H; dsimp only [setL, delL] at H
 refine RW.nil ?_
 refine blkQ_normal ?_
 refine W.rg [(1, .map (some b1)), (5, .agg #[.string ⟨#[102, 49]⟩, .string ⟨#[102, 50]⟩, .string ⟨#[102, 51]⟩, .string ⟨#[102, 52]⟩, .string ⟨#[102, 53]⟩, .string ⟨#[102, 54]⟩, .string ⟨#[102, 55]⟩, .string ⟨#[102, 56]⟩, .string ⟨#[102, 57]⟩, .string ⟨#[102, 49, 48]⟩, .string ⟨#[102, 49, 49]⟩, .string ⟨#[102, 49, 50]⟩, .string ⟨#[117, 112]⟩, .string ⟨#[100, 111, 119, 110]⟩, .string ⟨#[108, 101, 102, 116]⟩, .string ⟨#[114, 105, 103, 104, 116]⟩, .string ⟨#[104, 111, 109, 101]⟩, .string ⟨#[101, 110, 100]⟩, .string ⟨#[112, 114, 105, 111, 114]⟩, .string ⟨#[110, 101, 120, 116]⟩, .string ⟨#[105, 110, 115, 101, 114, 116]⟩, .string ⟨#[100, 101, 108, 101, 116, 101]⟩, .string ⟨#[98, 97, 99, 107, 115, 112, 97, 99, 101]⟩, .string ⟨#[114, 101, 116, 117, 114, 110]⟩, .string ⟨#[116, 97, 98]⟩, .string ⟨#[101, 115, 99, 97, 112, 101]⟩, .string ⟨#[98, 97, 99, 107, 116, 97, 98]⟩]), (6, .int .i64 17)] fun TA => ?_
 refine W.region ?_
 iterate 2 refine RW.v ?_
 refine RW.nil ?_
 refine WL.once ?_
 refine W.rg [(1, .map (some b1)), (5, .agg #[.string ⟨#[102, 49]⟩, .string ⟨#[102, 50]⟩, .string ⟨#[102, 51]⟩, .string ⟨#[102, 52]⟩, .string ⟨#[102, 53]⟩, .string ⟨#[102, 54]⟩, .string ⟨#[102, 55]⟩, .string ⟨#[102, 56]⟩, .string ⟨#[102, 57]⟩, .string ⟨#[102, 49, 48]⟩, .string ⟨#[102, 49, 49]⟩, .string ⟨#[102, 49, 50]⟩, .string ⟨#[117, 112]⟩, .string ⟨#[100, 111, 119, 110]⟩, .string ⟨#[108, 101, 102, 116]⟩, .string ⟨#[114, 105, 103, 104, 116]⟩, .string ⟨#[104, 111, 109, 101]⟩, .string ⟨#[101, 110, 100]⟩, .string ⟨#[112, 114, 105, 111, 114]⟩, .string ⟨#[110, 101, 120, 116]⟩, .string ⟨#[105, 110, 115, 101, 114, 116]⟩, .string ⟨#[100, 101, 108, 101, 116, 101]⟩, .string ⟨#[98, 97, 99, 107, 115, 112, 97, 99, 101]⟩, .string ⟨#[114, 101, 116, 117, 114, 110]⟩, .string ⟨#[116, 97, 98]⟩, .string ⟨#[101, 115, 99, 97, 112, 101]⟩, .string ⟨#[98, 97, 99, 107, 116, 97, 98]⟩]), (6, .int .i64 18)] fun TA => ?_
 refine W.seq (W.region ?_)
 refine RW.v ?_
 refine RW.nil ?_
 refine W.rg [(1, .map (some b1)), (5, .agg #[.string ⟨#[102, 49]⟩, .string ⟨#[102, 50]⟩, .string ⟨#[102, 51]⟩, .string ⟨#[102, 52]⟩, .string ⟨#[102, 53]⟩, .string ⟨#[102, 54]⟩, .string ⟨#[102, 55]⟩, .string ⟨#[102, 56]⟩, .string ⟨#[102, 57]⟩, .string ⟨#[102, 49, 48]⟩, .string ⟨#[102, 49, 49]⟩, .string ⟨#[102, 49, 50]⟩, .string ⟨#[117, 112]⟩, .string ⟨#[100, 111, 119, 110]⟩, .string ⟨#[108, 101, 102, 116]⟩, .string ⟨#[114, 105, 103, 104, 116]⟩, .string ⟨#[104, 111, 109, 101]⟩, .string ⟨#[101, 110, 100]⟩, .string ⟨#[112, 114, 105, 111, 114]⟩, .string ⟨#[110, 101, 120, 116]⟩, .string ⟨#[105, 110, 115, 101, 114, 116]⟩, .string ⟨#[100, 101, 108, 101, 116, 101]⟩, .string ⟨#[98, 97, 99, 107, 115, 112, 97, 99, 101]⟩, .string ⟨#[114, 101, 116, 117, 114, 110]⟩, .string ⟨#[116, 97, 98]⟩, .string ⟨#[101, 115, 99, 97, 112, 101]⟩, .string ⟨#[98, 97, 99, 107, 116, 97, 98]⟩]), (6, .int .i64 18), (7, .bool true)] fun TA => ?_
 refine W.seq ?_
 refine W.c1 ?_
 refine W.skip ?_
 refine W.seq ?_
 refine W.block ?_
 refine W.seq (W.region ?_)
 refine RW.v ?_
 refine RW.val (v := .string ⟨#[112, 114, 105, 111, 114]⟩) (by kernel_rfl) (by kernel_rfl) (by kernel_rfl) (by kernel_rfl) ?_
 iterate 2 refine RW.v ?_
 refine RW.nil ?_
 refine W.rg [(1, .map (some b1)), (2, .int .i64 18), (3, .string ⟨#[112, 114, 105, 111, 114]⟩), (5, .agg #[.string ⟨#[102, 49]⟩, .string ⟨#[102, 50]⟩, .string ⟨#[102, 51]⟩, .string ⟨#[102, 52]⟩, .string ⟨#[102, 53]⟩, .string ⟨#[102, 54]⟩, .string ⟨#[102, 55]⟩, .string ⟨#[102, 56]⟩, .string ⟨#[102, 57]⟩, .string ⟨#[102, 49, 48]⟩, .string ⟨#[102, 49, 49]⟩, .string ⟨#[102, 49, 50]⟩, .string ⟨#[117, 112]⟩, .string ⟨#[100, 111, 119, 110]⟩, .string ⟨#[108, 101, 102, 116]⟩, .string ⟨#[114, 105, 103, 104, 116]⟩, .string ⟨#[104, 111, 109, 101]⟩, .string ⟨#[101, 110, 100]⟩, .string ⟨#[112, 114, 105, 111, 114]⟩, .string ⟨#[110, 101, 120, 116]⟩, .string ⟨#[105, 110, 115, 101, 114, 116]⟩, .string ⟨#[100, 101, 108, 101, 116, 101]⟩, .string ⟨#[98, 97, 99, 107, 115, 112, 97, 99, 101]⟩, .string ⟨#[114, 101, 116, 117, 114, 110]⟩, .string ⟨#[116, 97, 98]⟩, .string ⟨#[101, 115, 99, 97, 112, 101]⟩, .string ⟨#[98, 97, 99, 107, 116, 97, 98]⟩]), (6, .int .i64 18)] fun TA => ?_
 refine W.region ?_
 iterate 4 refine RW.v ?_
 refine RW.upL H 0 [(.string ⟨#[102, 49]⟩, .int .i64 2097153), (.string ⟨#[102, 50]⟩, .int .i64 2097154), (.string ⟨#[102, 51]⟩, .int .i64 2097155), (.string ⟨#[102, 52]⟩, .int .i64 2097156), (.string ⟨#[102, 53]⟩, .int .i64 2097157), (.string ⟨#[102, 54]⟩, .int .i64 2097158), (.string ⟨#[102, 55]⟩, .int .i64 2097159), (.string ⟨#[102, 56]⟩, .int .i64 2097160), (.string ⟨#[102, 57]⟩, .int .i64 2097161), (.string ⟨#[102, 49, 48]⟩, .int .i64 2097162), (.string ⟨#[102, 49, 49]⟩, .int .i64 2097163), (.string ⟨#[102, 49, 50]⟩, .int .i64 2097164), (.string ⟨#[117, 112]⟩, .int .i64 2097165), (.string ⟨#[100, 111, 119, 110]⟩, .int .i64 2097166), (.string ⟨#[108, 101, 102, 116]⟩, .int .i64 2097167), (.string ⟨#[114, 105, 103, 104, 116]⟩, .int .i64 2097168), (.string ⟨#[104, 111, 109, 101]⟩, .int .i64 2097169), (.string ⟨#[101, 110, 100]⟩, .int .i64 2097170), (.string ⟨#[112, 114, 105, 111, 114]⟩, .int .i64 2097171)] 19 ?_
 clear H; intro _ _ H; dsimp only [setL, delL] at H
 refine RW.nil ?_
 refine blkQ_normal ?_
 refine W.rg [(1, .map (some b1)), (5, .agg #[.string ⟨#[102, 49]⟩, .string ⟨#[102, 50]⟩, .string ⟨#[102, 51]⟩, .string ⟨#[102, 52]⟩, .string ⟨#[102, 53]⟩, .string ⟨#[102, 54]⟩, .string ⟨#[102, 55]⟩, .string ⟨#[102, 56]⟩, .string ⟨#[102, 57]⟩, .string ⟨#[102, 49, 48]⟩, .string ⟨#[102, 49, 49]⟩, .string ⟨#[102, 49, 50]⟩, .string ⟨#[117, 112]⟩, .string ⟨#[100, 111, 119, 110]⟩, .string ⟨#[108, 101, 102, 116]⟩, .string ⟨#[114, 105, 103, 104, 116]⟩, .string ⟨#[104, 111, 109, 101]⟩, .string ⟨#[101, 110, 100]⟩, .string ⟨#[112, 114, 105, 111, 114]⟩, .string ⟨#[110, 101, 120, 116]⟩, .string ⟨#[105, 110, 115, 101, 114, 116]⟩, .string ⟨#[100, 101, 108, 101, 116, 101]⟩, .string ⟨#[98, 97, 99, 107, 115, 112, 97, 99, 101]⟩, .string ⟨#[114, 101, 116, 117, 114, 110]⟩, .string ⟨#[116, 97, 98]⟩, .string ⟨#[101, 115, 99, 97, 112, 101]⟩, .string ⟨#[98, 97, 99, 107, 116, 97, 98]⟩]), (6, .int .i64 18)] fun TA => ?_
 refine W.region ?_
 iterate 2 refine RW.v ?_
 refine RW.nil ?_
 refine WL.once ?_
 refine W.rg [(1, .map (some b1)), (5, .agg #[.string ⟨#[102, 49]⟩, .string ⟨#[102, 50]⟩, .string ⟨#[102, 51]⟩, .string ⟨#[102, 52]⟩, .string ⟨#[102, 53]⟩, .string ⟨#[102, 54]⟩, .string ⟨#[102, 55]⟩, .string ⟨#[102, 56]⟩, .string ⟨#[102, 57]⟩, .string ⟨#[102, 49, 48]⟩, .string ⟨#[102, 49, 49]⟩, .string ⟨#[102, 49, 50]⟩, .string ⟨#[117, 112]⟩, .string ⟨#[100, 111, 119, 110]⟩, .string ⟨#[108, 101, 102, 116]⟩, .string ⟨#[114, 105, 103, 104, 116]⟩, .string ⟨#[104, 111, 109, 101]⟩, .string ⟨#[101, 110, 100]⟩, .string ⟨#[112, 114, 105, 111, 114]⟩, .string ⟨#[110, 101, 120, 116]⟩, .string ⟨#[105, 110, 115, 101, 114, 116]⟩, .string ⟨#[100, 101, 108, 101, 116, 101]⟩, .string ⟨#[98, 97, 99, 107, 115, 112, 97, 99, 101]⟩, .string ⟨#[114, 101, 116, 117, 114, 110]⟩, .string ⟨#[116, 97, 98]⟩, .string ⟨#[101, 115, 99, 97, 112, 101]⟩, .string ⟨#[98, 97, 99, 107, 116, 97, 98]⟩]), (6, .int .i64 19)] fun TA => ?_
 refine W.seq (W.region ?_)
 refine RW.v ?_
 refine RW.nil ?_
 refine W.rg [(1, .map (some b1)), (5, .agg #[.string ⟨#[102, 49]⟩, .string ⟨#[102, 50]⟩, .string ⟨#[102, 51]⟩, .string ⟨#[102, 52]⟩, .string ⟨#[102, 53]⟩, .string ⟨#[102, 54]⟩, .string ⟨#[102, 55]⟩, .string ⟨#[102, 56]⟩, .string ⟨#[102, 57]⟩, .string ⟨#[102, 49, 48]⟩, .string ⟨#[102, 49, 49]⟩, .string ⟨#[102, 49, 50]⟩, .string ⟨#[117, 112]⟩, .string ⟨#[100, 111, 119, 110]⟩, .string ⟨#[108, 101, 102, 116]⟩, .string ⟨#[114, 105, 103, 104, 116]⟩, .string ⟨#[104, 111, 109, 101]⟩, .string ⟨#[101, 110, 100]⟩, .string ⟨#[112, 114, 105, 111, 114]⟩, .string ⟨#[110, 101, 120, 116]⟩, .string ⟨#[105, 110, 115, 101, 114, 116]⟩, .string ⟨#[100, 101, 108, 101, 116, 101]⟩, .string ⟨#[98, 97, 99, 107, 115, 112, 97, 99, 101]⟩, .string ⟨#[114, 101, 116, 117, 114, 110]⟩, .string ⟨#[116, 97, 98]⟩, .string ⟨#[101, 115, 99, 97, 112, 101]⟩, .string ⟨#[98, 97, 99, 107, 116, 97, 98]⟩]), (6, .int .i64 19), (7, .bool true)] fun TA => ?_
 refine W.seq ?_
 refine W.c1 ?_
 refine W.skip ?_
 refine W.seq ?_
 refine W.block ?_
 refine W.seq (W.region ?_)
 refine RW.v ?_
 refine RW.val (v := .string ⟨#[110, 101, 120, 116]⟩) (by kernel_rfl) (by kernel_rfl) (by kernel_rfl) (by kernel_rfl) ?_
 iterate 2 refine RW.v ?_
 refine RW.nil ?_
 refine W.rg [(1, .map (some b1)), (2, .int .i64 19), (3, .string ⟨#[110, 101, 120, 116]⟩), (5, .agg #[.string ⟨#[102, 49]⟩, .string ⟨#[102, 50]⟩, .string ⟨#[102, 51]⟩, .string ⟨#[102, 52]⟩, .string ⟨#[102, 53]⟩, .string ⟨#[102, 54]⟩, .string ⟨#[102, 55]⟩, .string ⟨#[102, 56]⟩, .string ⟨#[102, 57]⟩, .string ⟨#[102, 49, 48]⟩, .string ⟨#[102, 49, 49]⟩, .string ⟨#[102, 49, 50]⟩, .string ⟨#[117, 112]⟩, .string ⟨#[100, 111, 119, 110]⟩, .string ⟨#[108, 101, 102, 116]⟩, .string ⟨#[114, 105, 103, 104, 116]⟩, .string ⟨#[104, 111, 109, 101]⟩, .string ⟨#[101, 110, 100]⟩, .string ⟨#[112, 114, 105, 111, 114]⟩, .string ⟨#[110, 101, 120, 116]⟩, .string ⟨#[105, 110, 115, 101, 114, 116]⟩, .string ⟨#[100, 101, 108, 101, 116, 101]⟩, .string ⟨#[98, 97, 99, 107, 115, 112, 97, 99, 101]⟩, .string ⟨#[114, 101, 116, 117, 114, 110]⟩, .string ⟨#[116, 97, 98]⟩, .string ⟨#[101, 115, 99, 97, 112, 101]⟩, .string ⟨#[98, 97, 99, 107, 116, 97, 98]⟩]), (6, .int .i64 19)] fun TA => ?_
 refine W.region ?_
 iterate 4 refine RW.v ?_
 refine RW.upL H 0 [(.string ⟨#[102, 49]⟩, .int .i64 2097153), (.string ⟨#[102, 50]⟩, .int .i64 2097154), (.string ⟨#[102, 51]⟩, .int .i64 2097155), (.string ⟨#[102, 52]⟩, .int .i64 2097156), (.string ⟨#[102, 53]⟩, .int .i64 2097157), (.string ⟨#[102, 54]⟩, .int .i64 2097158), (.string ⟨#[102, 55]⟩, .int .i64 2097159), (.string ⟨#[102, 56]⟩, .int .i64 2097160), (.string ⟨#[102, 57]⟩, .int .i64 2097161), (.string ⟨#[102, 49, 48]⟩, .int .i64 2097162), (.string ⟨#[102, 49, 49]⟩, .int .i64 2097163), (.string ⟨#[102, 49, 50]⟩, .int .i64 2097164), (.string ⟨#[117, 112]⟩, .int .i64 2097165), (.string ⟨#[100, 111, 119, 110]⟩, .int .i64 2097166), (.string ⟨#[108, 101, 102, 116]⟩, .int .i64 2097167), (.string ⟨#[114, 105, 103, 104, 116]⟩, .int .i64 2097168), (.string ⟨#[104, 111, 109, 101]⟩, .int .i64 2097169), (.string ⟨#[101, 110, 100]⟩, .int .i64 2097170), (.string ⟨#[112, 114, 105, 111, 114]⟩, .int .i64 2097171), (.string ⟨#[110, 101, 120, 116]⟩, .int .i64 2097172)] 20 ?_
 clear H; intro _ _ H; dsimp only [setL, delL] at H
 refine RW.nil ?_
 refine blkQ_normal ?_
 refine W.rg [(1, .map (some b1)), (5, .agg #[.string ⟨#[102, 49]⟩, .string ⟨#[102, 50]⟩, .string ⟨#[102, 51]⟩, .string ⟨#[102, 52]⟩, .string ⟨#[102, 53]⟩, .string ⟨#[102, 54]⟩, .string ⟨#[102, 55]⟩, .string ⟨#[102, 56]⟩, .string ⟨#[102, 57]⟩, .string ⟨#[102, 49, 48]⟩, .string ⟨#[102, 49, 49]⟩, .string ⟨#[102, 49, 50]⟩, .string ⟨#[117, 112]⟩, .string ⟨#[100, 111, 119, 110]⟩, .string ⟨#[108, 101, 102, 116]⟩, .string ⟨#[114, 105, 103, 104, 116]⟩, .string ⟨#[104, 111, 109, 101]⟩, .string ⟨#[101, 110, 100]⟩, .string ⟨#[112, 114, 105, 111, 114]⟩, .string ⟨#[110, 101, 120, 116]⟩, .string ⟨#[105, 110, 115, 101, 114, 116]⟩, .string ⟨#[100, 101, 108, 101, 116, 101]⟩, .string ⟨#[98, 97, 99, 107, 115, 112, 97, 99, 101]⟩, .string ⟨#[114, 101, 116, 117, 114, 110]⟩, .string ⟨#[116, 97, 98]⟩, .string ⟨#[101, 115, 99, 97, 112, 101]⟩, .string ⟨#[98, 97, 99, 107, 116, 97, 98]⟩]), (6, .int .i64 19)] fun TA => ?_
 refine W.region ?_
 iterate 2 refine RW.v ?_
 refine RW.nil ?_
 refine WL.once ?_
 refine W.rg [(1, .map (some b1)), (5, .agg #[.string ⟨#[102, 49]⟩, .string ⟨#[102, 50]⟩, .string ⟨#[102, 51]⟩, .string ⟨#[102, 52]⟩, .string ⟨#[102, 53]⟩, .string ⟨#[102, 54]⟩, .string ⟨#[102, 55]⟩, .string ⟨#[102, 56]⟩, .string ⟨#[102, 57]⟩, .string ⟨#[102, 49, 48]⟩, .string ⟨#[102, 49, 49]⟩, .string ⟨#[102, 49, 50]⟩, .string ⟨#[117, 112]⟩, .string ⟨#[100, 111, 119, 110]⟩, .string ⟨#[108, 101, 102, 116]⟩, .string ⟨#[114, 105, 103, 104, 116]⟩, .string ⟨#[104, 111, 109, 101]⟩, .string ⟨#[101, 110, 100]⟩, .string ⟨#[112, 114, 105, 111, 114]⟩, .string ⟨#[110, 101, 120, 116]⟩, .string ⟨#[105, 110, 115, 101, 114, 116]⟩, .string ⟨#[100, 101, 108, 101, 116, 101]⟩, .string ⟨#[98, 97, 99, 107, 115, 112, 97, 99, 101]⟩, .string ⟨#[114, 101, 116, 117, 114, 110]⟩, .string ⟨#[116, 97, 98]⟩, .string ⟨#[101, 115, 99, 97, 112, 101]⟩, .string ⟨#[98, 97, 99, 107, 116, 97, 98]⟩]), (6, .int .i64 20)] fun TA => ?_
 refine W.seq (W.region ?_)
 refine RW.v ?_
 refine RW.nil ?_
 refine W.rg [(1, .map (some b1)), (5, .agg #[.string ⟨#[102, 49]⟩, .string ⟨#[102, 50]⟩, .string ⟨#[102, 51]⟩, .string ⟨#[102, 52]⟩, .string ⟨#[102, 53]⟩, .string ⟨#[102, 54]⟩, .string ⟨#[102, 55]⟩, .string ⟨#[102, 56]⟩, .string ⟨#[102, 57]⟩, .string ⟨#[102, 49, 48]⟩, .string ⟨#[102, 49, 49]⟩, .string ⟨#[102, 49, 50]⟩, .string ⟨#[117, 112]⟩, .string ⟨#[100, 111, 119, 110]⟩, .string ⟨#[108, 101, 102, 116]⟩, .string ⟨#[114, 105, 103, 104, 116]⟩, .string ⟨#[104, 111, 109, 101]⟩, .string ⟨#[101, 110, 100]⟩, .string ⟨#[112, 114, 105, 111, 114]⟩, .string ⟨#[110, 101, 120, 116]⟩, .string ⟨#[105, 110, 115, 101, 114, 116]⟩, .string ⟨#[100, 101, 108, 101, 116, 101]⟩, .string ⟨#[98, 97, 99, 107, 115, 112, 97, 99, 101]⟩, .string ⟨#[114, 101, 116, 117, 114, 110]⟩, .string ⟨#[116, 97, 98]⟩, .string ⟨#[101, 115, 99, 97, 112, 101]⟩, .string ⟨#[98, 97, 99, 107, 116, 97, 98]⟩]), (6, .int .i64 20), (7, .bool true)] fun TA => ?_
 refine W.seq ?_
 refine W.c1 ?_
 refine W.skip ?_
 refine W.seq ?_
 refine W.block ?_
 refine W.seq (W.region ?_)
 refine RW.v ?_
 refine RW.val (v := .string ⟨#[105, 110, 115, 101, 114, 116]⟩) (by kernel_rfl) (by kernel_rfl) (by kernel_rfl) (by kernel_rfl) ?_
 iterate 2 refine RW.v ?_
 refine RW.nil ?_
 refine W.rg [(1, .map (some b1)), (2, .int .i64 20), (3, .string ⟨#[105, 110, 115, 101, 114, 116]⟩), (5, .agg #[.string ⟨#[102, 49]⟩, .string ⟨#[102, 50]⟩, .string ⟨#[102, 51]⟩, .string ⟨#[102, 52]⟩, .string ⟨#[102, 53]⟩, .string ⟨#[102, 54]⟩, .string ⟨#[102, 55]⟩, .string ⟨#[102, 56]⟩, .string ⟨#[102, 57]⟩, .string ⟨#[102, 49, 48]⟩, .string ⟨#[102, 49, 49]⟩, .string ⟨#[102, 49, 50]⟩, .string ⟨#[117, 112]⟩, .string ⟨#[100, 111, 119, 110]⟩, .string ⟨#[108, 101, 102, 116]⟩, .string ⟨#[114, 105, 103, 104, 116]⟩, .string ⟨#[104, 111, 109, 101]⟩, .string ⟨#[101, 110, 100]⟩, .string ⟨#[112, 114, 105, 111, 114]⟩, .string ⟨#[110, 101, 120, 116]⟩, .string ⟨#[105, 110, 115, 101, 114, 116]⟩, .string ⟨#[100, 101, 108, 101, 116, 101]⟩, .string ⟨#[98, 97, 99, 107, 115, 112, 97, 99, 101]⟩, .string ⟨#[114, 101, 116, 117, 114, 110]⟩, .string ⟨#[116, 97, 98]⟩, .string ⟨#[101, 115, 99, 97, 112, 101]⟩, .string ⟨#[98, 97, 99, 107, 116, 97, 98]⟩]), (6, .int .i64 20)] fun TA => ?_
 refine W.region ?_
 iterate 4 refine RW.v ?_
 refine RW.upL H 0 [(.string ⟨#[102, 49]⟩, .int .i64 2097153), (.string ⟨#[102, 50]⟩, .int .i64 2097154), (.string ⟨#[102, 51]⟩, .int .i64 2097155), (.string ⟨#[102, 52]⟩, .int .i64 2097156), (.string ⟨#[102, 53]⟩, .int .i64 2097157), (.string ⟨#[102, 54]⟩, .int .i64 2097158), (.string ⟨#[102, 55]⟩, .int .i64 2097159), (.string ⟨#[102, 56]⟩, .int .i64 2097160), (.string ⟨#[102, 57]⟩, .int .i64 2097161), (.string ⟨#[102, 49, 48]⟩, .int .i64 2097162), (.string ⟨#[102, 49, 49]⟩, .int .i64 2097163), (.string ⟨#[102, 49, 50]⟩, .int .i64 2097164), (.string ⟨#[117, 112]⟩, .int .i64 2097165), (.string ⟨#[100, 111, 119, 110]⟩, .int .i64 2097166), (.string ⟨#[108, 101, 102, 116]⟩, .int .i64 2097167), (.string ⟨#[114, 105, 103, 104, 116]⟩, .int .i64 2097168), (.string ⟨#[104, 111, 109, 101]⟩, .int .i64 2097169), (.string ⟨#[101, 110, 100]⟩, .int .i64 2097170), (.string ⟨#[112, 114, 105, 111, 114]⟩, .int .i64 2097171), (.string ⟨#[110, 101, 120, 116]⟩, .int .i64 2097172), (.string ⟨#[105, 110, 115, 101, 114, 116]⟩, .int .i64 2097173)] 21 ?_
 clear H; intro _ _ H; dsimp only [setL, delL] at H
 refine RW.nil ?_
 refine blkQ_normal ?_
 refine W.rg [(1, .map (some b1)), (5, .agg #[.string ⟨#[102, 49]⟩, .string ⟨#[102, 50]⟩, .string ⟨#[102, 51]⟩, .string ⟨#[102, 52]⟩, .string ⟨#[102, 53]⟩, .string ⟨#[102, 54]⟩, .string ⟨#[102, 55]⟩, .string ⟨#[102, 56]⟩, .string ⟨#[102, 57]⟩, .string ⟨#[102, 49, 48]⟩, .string ⟨#[102, 49, 49]⟩, .string ⟨#[102, 49, 50]⟩, .string ⟨#[117, 112]⟩, .string ⟨#[100, 111, 119, 110]⟩, .string ⟨#[108, 101, 102, 116]⟩, .string ⟨#[114, 105, 103, 104, 116]⟩, .string ⟨#[104, 111, 109, 101]⟩, .string ⟨#[101, 110, 100]⟩, .string ⟨#[112, 114, 105, 111, 114]⟩, .string ⟨#[110, 101, 120, 116]⟩, .string ⟨#[105, 110, 115, 101, 114, 116]⟩, .string ⟨#[100, 101, 108, 101, 116, 101]⟩, .string ⟨#[98, 97, 99, 107, 115, 112, 97, 99, 101]⟩, .string ⟨#[114, 101, 116, 117, 114, 110]⟩, .string ⟨#[116, 97, 98]⟩, .string ⟨#[101, 115, 99, 97, 112, 101]⟩, .string ⟨#[98, 97, 99, 107, 116, 97, 98]⟩]), (6, .int .i64 20)] fun TA => ?_
 refine W.region ?_
 iterate 2 refine RW.v ?_
 refine RW.nil ?_
 refine WL.once ?_
 refine W.rg [(1, .map (some b1)), (5, .agg #[.string ⟨#[102, 49]⟩, .string ⟨#[102, 50]⟩, .string ⟨#[102, 51]⟩, .string ⟨#[102, 52]⟩, .string ⟨#[102, 53]⟩, .string ⟨#[102, 54]⟩, .string ⟨#[102, 55]⟩, .string ⟨#[102, 56]⟩, .string ⟨#[102, 57]⟩, .string ⟨#[102, 49, 48]⟩, .string ⟨#[102, 49, 49]⟩, .string ⟨#[102, 49, 50]⟩, .string ⟨#[117, 112]⟩, .string ⟨#[100, 111, 119, 110]⟩, .string ⟨#[108, 101, 102, 116]⟩, .string ⟨#[114, 105, 103, 104, 116]⟩, .string ⟨#[104, 111, 109, 101]⟩, .string ⟨#[101, 110, 100]⟩, .string ⟨#[112, 114, 105, 111, 114]⟩, .string ⟨#[110, 101, 120, 116]⟩, .string ⟨#[105, 110, 115, 101, 114, 116]⟩, .string ⟨#[100, 101, 108, 101, 116, 101]⟩, .string ⟨#[98, 97, 99, 107, 115, 112, 97, 99, 101]⟩, .string ⟨#[114, 101, 116, 117, 114, 110]⟩, .string ⟨#[116, 97, 98]⟩, .string ⟨#[101, 115, 99, 97, 112, 101]⟩, .string ⟨#[98, 97, 99, 107, 116, 97, 98]⟩]), (6, .int .i64 21)] fun TA => ?_
 refine W.seq (W.region ?_)
 refine RW.v ?_
 refine RW.nil ?_
 refine W.rg [(1, .map (some b1)), (5, .agg #[.string ⟨#[102, 49]⟩, .string ⟨#[102, 50]⟩, .string ⟨#[102, 51]⟩, .string ⟨#[102, 52]⟩, .string ⟨#[102, 53]⟩, .string ⟨#[102, 54]⟩, .string ⟨#[102, 55]⟩, .string ⟨#[102, 56]⟩, .string ⟨#[102, 57]⟩, .string ⟨#[102, 49, 48]⟩, .string ⟨#[102, 49, 49]⟩, .string ⟨#[102, 49, 50]⟩, .string ⟨#[117, 112]⟩, .string ⟨#[100, 111, 119, 110]⟩, .string ⟨#[108, 101, 102, 116]⟩, .string ⟨#[114, 105, 103, 104, 116]⟩, .string ⟨#[104, 111, 109, 101]⟩, .string ⟨#[101, 110, 100]⟩, .string ⟨#[112, 114, 105, 111, 114]⟩, .string ⟨#[110, 101, 120, 116]⟩, .string ⟨#[105, 110, 115, 101, 114, 116]⟩, .string ⟨#[100, 101, 108, 101, 116, 101]⟩, .string ⟨#[98, 97, 99, 107, 115, 112, 97, 99, 101]⟩, .string ⟨#[114, 101, 116, 117, 114, 110]⟩, .string ⟨#[116, 97, 98]⟩, .string ⟨#[101, 115, 99, 97, 112, 101]⟩, .string ⟨#[98, 97, 99, 107, 116, 97, 98]⟩]), (6, .int .i64 21), (7, .bool true)] fun TA => ?_
 refine W.seq ?_
 refine W.c1 ?_
 refine W.skip ?_
 refine W.seq ?_
 refine W.block ?_
 refine W.seq (W.region ?_)
 refine RW.v ?_
 refine RW.val (v := .string ⟨#[100, 101, 108, 101, 116, 101]⟩) (by kernel_rfl) (by kernel_rfl) (by kernel_rfl) (by kernel_rfl) ?_
 iterate 2 refine RW.v ?_
 refine RW.nil ?_
 refine W.rg [(1, .map (some b1)), (2, .int .i64 21), (3, .string ⟨#[100, 101, 108, 101, 116, 101]⟩), (5, .agg #[.string ⟨#[102, 49]⟩, .string ⟨#[102, 50]⟩, .string ⟨#[102, 51]⟩, .string ⟨#[102, 52]⟩, .string ⟨#[102, 53]⟩, .string ⟨#[102, 54]⟩, .string ⟨#[102, 55]⟩, .string ⟨#[102, 56]⟩, .string ⟨#[102, 57]⟩, .string ⟨#[102, 49, 48]⟩, .string ⟨#[102, 49, 49]⟩, .string ⟨#[102, 49, 50]⟩, .string ⟨#[117, 112]⟩, .string ⟨#[100, 111, 119, 110]⟩, .string ⟨#[108, 101, 102, 116]⟩, .string ⟨#[114, 105, 103, 104, 116]⟩, .string ⟨#[104, 111, 109, 101]⟩, .string ⟨#[101, 110, 100]⟩, .string ⟨#[112, 114, 105, 111, 114]⟩, .string ⟨#[110, 101, 120, 116]⟩, .string ⟨#[105, 110, 115, 101, 114, 116]⟩, .string ⟨#[100, 101, 108, 101, 116, 101]⟩, .string ⟨#[98, 97, 99, 107, 115, 112, 97, 99, 101]⟩, .string ⟨#[114, 101, 116, 117, 114, 110]⟩, .string ⟨#[116, 97, 98]⟩, .string ⟨#[101, 115, 99, 97, 112, 101]⟩, .string ⟨#[98, 97, 99, 107, 116, 97, 98]⟩]), (6, .int .i64 21)] fun TA => ?_
 refine W.region ?_
 iterate 4 refine RW.v ?_
 refine RW.upL H 0 [(.string ⟨#[102, 49]⟩, .int .i64 2097153), (.string ⟨#[102, 50]⟩, .int .i64 2097154), (.string ⟨#[102, 51]⟩, .int .i64 2097155), (.string ⟨#[102, 52]⟩, .int .i64 2097156), (.string ⟨#[102, 53]⟩, .int .i64 2097157), (.string ⟨#[102, 54]⟩, .int .i64 2097158), (.string ⟨#[102, 55]⟩, .int .i64 2097159), (.string ⟨#[102, 56]⟩, .int .i64 2097160), (.string ⟨#[102, 57]⟩, .int .i64 2097161), (.string ⟨#[102, 49, 48]⟩, .int .i64 2097162), (.string ⟨#[102, 49, 49]⟩, .int .i64 2097163), (.string ⟨#[102, 49, 50]⟩, .int .i64 2097164), (.string ⟨#[117, 112]⟩, .int .i64 2097165), (.string ⟨#[100, 111, 119, 110]⟩, .int .i64 2097166), (.string ⟨#[108, 101, 102, 116]⟩, .int .i64 2097167), (.string ⟨#[114, 105, 103, 104, 116]⟩, .int .i64 2097168), (.string ⟨#[104, 111, 109, 101]⟩, .int .i64 2097169), (.string ⟨#[101, 110, 100]⟩, .int .i64 2097170), (.string ⟨#[112, 114, 105, 111, 114]⟩, .int .i64 2097171), (.string ⟨#[110, 101, 120, 116]⟩, .int .i64 2097172), (.string ⟨#[105, 110, 115, 101, 114, 116]⟩, .int .i64 2097173), (.string ⟨#[100, 101, 108, 101, 116, 101]⟩, .int .i64 2097174)] 22 ?_
 clear H; intro _ _ H; dsimp only [setL, delL] at H
 refine RW.nil ?_
 refine blkQ_normal ?_
 refine W.rg [(1, .map (some b1)), (5, .agg #[.string ⟨#[102, 49]⟩, .string ⟨#[102, 50]⟩, .string ⟨#[102, 51]⟩, .string ⟨#[102, 52]⟩, .string ⟨#[102, 53]⟩, .string ⟨#[102, 54]⟩, .string ⟨#[102, 55]⟩, .string ⟨#[102, 56]⟩, .string ⟨#[102, 57]⟩, .string ⟨#[102, 49, 48]⟩, .string ⟨#[102, 49, 49]⟩, .string ⟨#[102, 49, 50]⟩, .string ⟨#[117, 112]⟩, .string ⟨#[100, 111, 119, 110]⟩, .string ⟨#[108, 101, 102, 116]⟩, .string ⟨#[114, 105, 103, 104, 116]⟩, .string ⟨#[104, 111, 109, 101]⟩, .string ⟨#[101, 110, 100]⟩, .string ⟨#[112, 114, 105, 111, 114]⟩, .string ⟨#[110, 101, 120, 116]⟩, .string ⟨#[105, 110, 115, 101, 114, 116]⟩, .string ⟨#[100, 101, 108, 101, 116, 101]⟩, .string ⟨#[98, 97, 99, 107, 115, 112, 97, 99, 101]⟩, .string ⟨#[114, 101, 116, 117, 114, 110]⟩, .string ⟨#[116, 97, 98]⟩, .string ⟨#[101, 115, 99, 97, 112, 101]⟩, .string ⟨#[98, 97, 99, 107, 116, 97, 98]⟩]), (6, .int .i64 21)] fun TA => ?_
 refine W.region ?_
 iterate 2 refine RW.v ?_
 refine RW.nil ?_
 refine WL.once ?_
 refine W.rg [(1, .map (some b1)), (5, .agg #[.string ⟨#[102, 49]⟩, .string ⟨#[102, 50]⟩, .string ⟨#[102, 51]⟩, .string ⟨#[102, 52]⟩, .string ⟨#[102, 53]⟩, .string ⟨#[102, 54]⟩, .string ⟨#[102, 55]⟩, .string ⟨#[102, 56]⟩, .string ⟨#[102, 57]⟩, .string ⟨#[102, 49, 48]⟩, .string ⟨#[102, 49, 49]⟩, .string ⟨#[102, 49, 50]⟩, .string ⟨#[117, 112]⟩, .string ⟨#[100, 111, 119, 110]⟩, .string ⟨#[108, 101, 102, 116]⟩, .string ⟨#[114, 105, 103, 104, 116]⟩, .string ⟨#[104, 111, 109, 101]⟩, .string ⟨#[101, 110, 100]⟩, .string ⟨#[112, 114, 105, 111, 114]⟩, .string ⟨#[110, 101, 120, 116]⟩, .string ⟨#[105, 110, 115, 101, 114, 116]⟩, .string ⟨#[100, 101, 108, 101, 116, 101]⟩, .string ⟨#[98, 97, 99, 107, 115, 112, 97, 99, 101]⟩, .string ⟨#[114, 101, 116, 117, 114, 110]⟩, .string ⟨#[116, 97, 98]⟩, .string ⟨#[101, 115, 99, 97, 112, 101]⟩, .string ⟨#[98, 97, 99, 107, 116, 97, 98]⟩]), (6, .int .i64 22)] fun TA => ?_
 refine W.seq (W.region ?_)
 refine RW.v ?_
 refine RW.nil ?_
 refine W.rg [(1, .map (some b1)), (5, .agg #[.string ⟨#[102, 49]⟩, .string ⟨#[102, 50]⟩, .string ⟨#[102, 51]⟩, .string ⟨#[102, 52]⟩, .string ⟨#[102, 53]⟩, .string ⟨#[102, 54]⟩, .string ⟨#[102, 55]⟩, .string ⟨#[102, 56]⟩, .string ⟨#[102, 57]⟩, .string ⟨#[102, 49, 48]⟩, .string ⟨#[102, 49, 49]⟩, .string ⟨#[102, 49, 50]⟩, .string ⟨#[117, 112]⟩, .string ⟨#[100, 111, 119, 110]⟩, .string ⟨#[108, 101, 102, 116]⟩, .string ⟨#[114, 105, 103, 104, 116]⟩, .string ⟨#[104, 111, 109, 101]⟩, .string ⟨#[101, 110, 100]⟩, .string ⟨#[112, 114, 105, 111, 114]⟩, .string ⟨#[110, 101, 120, 116]⟩, .string ⟨#[105, 110, 115, 101, 114, 116]⟩, .string ⟨#[100, 101, 108, 101, 116, 101]⟩, .string ⟨#[98, 97, 99, 107, 115, 112, 97, 99, 101]⟩, .string ⟨#[114, 101, 116, 117, 114, 110]⟩, .string ⟨#[116, 97, 98]⟩, .string ⟨#[101, 115, 99, 97, 112, 101]⟩, .string ⟨#[98, 97, 99, 107, 116, 97, 98]⟩]), (6, .int .i64 22), (7, .bool true)] fun TA => ?_
 refine W.seq ?_
 refine W.c1 ?_
 refine W.skip ?_
 refine W.seq ?_
 refine W.block ?_
 refine W.seq (W.region ?_)
 refine RW.v ?_
 refine RW.val (v := .string ⟨#[98, 97, 99, 107, 115, 112, 97, 99, 101]⟩) (by kernel_rfl) (by kernel_rfl) (by kernel_rfl) (by kernel_rfl) ?_
 iterate 2 refine RW.v ?_
 refine RW.nil ?_
 refine W.rg [(1, .map (some b1)), (2, .int .i64 22), (3, .string ⟨#[98, 97, 99, 107, 115, 112, 97, 99, 101]⟩), (5, .agg #[.string ⟨#[102, 49]⟩, .string ⟨#[102, 50]⟩, .string ⟨#[102, 51]⟩, .string ⟨#[102, 52]⟩, .string ⟨#[102, 53]⟩, .string ⟨#[102, 54]⟩, .string ⟨#[102, 55]⟩, .string ⟨#[102, 56]⟩, .string ⟨#[102, 57]⟩, .string ⟨#[102, 49, 48]⟩, .string ⟨#[102, 49, 49]⟩, .string ⟨#[102, 49, 50]⟩, .string ⟨#[117, 112]⟩, .string ⟨#[100, 111, 119, 110]⟩, .string ⟨#[108, 101, 102, 116]⟩, .string ⟨#[114, 105, 103, 104, 116]⟩, .string ⟨#[104, 111, 109, 101]⟩, .string ⟨#[101, 110, 100]⟩, .string ⟨#[112, 114, 105, 111, 114]⟩, .string ⟨#[110, 101, 120, 116]⟩, .string ⟨#[105, 110, 115, 101, 114, 116]⟩, .string ⟨#[100, 101, 108, 101, 116, 101]⟩, .string ⟨#[98, 97, 99, 107, 115, 112, 97, 99, 101]⟩, .string ⟨#[114, 101, 116, 117, 114, 110]⟩, .string ⟨#[116, 97, 98]⟩, .string ⟨#[101, 115, 99, 97, 112, 101]⟩, .string ⟨#[98, 97, 99, 107, 116, 97, 98]⟩]), (6, .int .i64 22)] fun TA => ?_
 refine W.region ?_
 iterate 4 refine RW.v ?_
 refine RW.upL H 0 [(.string ⟨#[102, 49]⟩, .int .i64 2097153), (.string ⟨#[102, 50]⟩, .int .i64 2097154), (.string ⟨#[102, 51]⟩, .int .i64 2097155), (.string ⟨#[102, 52]⟩, .int .i64 2097156), (.string ⟨#[102, 53]⟩, .int .i64 2097157), (.string ⟨#[102, 54]⟩, .int .i64 2097158), (.string ⟨#[102, 55]⟩, .int .i64 2097159), (.string ⟨#[102, 56]⟩, .int .i64 2097160), (.string ⟨#[102, 57]⟩, .int .i64 2097161), (.string ⟨#[102, 49, 48]⟩, .int .i64 2097162), (.string ⟨#[102, 49, 49]⟩, .int .i64 2097163), (.string ⟨#[102, 49, 50]⟩, .int .i64 2097164), (.string ⟨#[117, 112]⟩, .int .i64 2097165), (.string ⟨#[100, 111, 119, 110]⟩, .int .i64 2097166), (.string ⟨#[108, 101, 102, 116]⟩, .int .i64 2097167), (.string ⟨#[114, 105, 103, 104, 116]⟩, .int .i64 2097168), (.string ⟨#[104, 111, 109, 101]⟩, .int .i64 2097169), (.string ⟨#[101, 110, 100]⟩, .int .i64 2097170), (.string ⟨#[112, 114, 105, 111, 114]⟩, .int .i64 2097171), (.string ⟨#[110, 101, 120, 116]⟩, .int .i64 2097172), (.string ⟨#[105, 110, 115, 101, 114, 116]⟩, .int .i64 2097173), (.string ⟨#[100, 101, 108, 101, 116, 101]⟩, .int .i64 2097174), (.string ⟨#[98, 97, 99, 107, 115, 112, 97, 99, 101]⟩, .int .i64 2097175)] 23 ?_
 clear H; intro _ _ H; dsimp only [setL, delL] at H
 refine RW.nil ?_
 refine blkQ_normal ?_
 refine W.rg [(1, .map (some b1)), (5, .agg #[.string ⟨#[102, 49]⟩, .string ⟨#[102, 50]⟩, .string ⟨#[102, 51]⟩, .string ⟨#[102, 52]⟩, .string ⟨#[102, 53]⟩, .string ⟨#[102, 54]⟩, .string ⟨#[102, 55]⟩, .string ⟨#[102, 56]⟩, .string ⟨#[102, 57]⟩, .string ⟨#[102, 49, 48]⟩, .string ⟨#[102, 49, 49]⟩, .string ⟨#[102, 49, 50]⟩, .string ⟨#[117, 112]⟩, .string ⟨#[100, 111, 119, 110]⟩, .string ⟨#[108, 101, 102, 116]⟩, .string ⟨#[114, 105, 103, 104, 116]⟩, .string ⟨#[104, 111, 109, 101]⟩, .string ⟨#[101, 110, 100]⟩, .string ⟨#[112, 114, 105, 111, 114]⟩, .string ⟨#[110, 101, 120, 116]⟩, .string ⟨#[105, 110, 115, 101, 114, 116]⟩, .string ⟨#[100, 101, 108, 101, 116, 101]⟩, .string ⟨#[98, 97, 99, 107, 115, 112, 97, 99, 101]⟩, .string ⟨#[114, 101, 116, 117, 114, 110]⟩, .string ⟨#[116, 97, 98]⟩, .string ⟨#[101, 115, 99, 97, 112, 101]⟩, .string ⟨#[98, 97, 99, 107, 116, 97, 98]⟩]), (6, .int .i64 22)] fun TA => ?_
 refine W.region ?_
 iterate 2 refine RW.v ?_
 refine RW.nil ?_
 refine WL.once ?_
 refine W.rg [(1, .map (some b1)), (5, .agg #[.string ⟨#[102, 49]⟩, .string ⟨#[102, 50]⟩, .string ⟨#[102, 51]⟩, .string ⟨#[102, 52]⟩, .string ⟨#[102, 53]⟩, .string ⟨#[102, 54]⟩, .string ⟨#[102, 55]⟩, .string ⟨#[102, 56]⟩, .string ⟨#[102, 57]⟩, .string ⟨#[102, 49, 48]⟩, .string ⟨#[102, 49, 49]⟩, .string ⟨#[102, 49, 50]⟩, .string ⟨#[117, 112]⟩, .string ⟨#[100, 111, 119, 110]⟩, .string ⟨#[108, 101, 102, 116]⟩, .string ⟨#[114, 105, 103, 104, 116]⟩, .string ⟨#[104, 111, 109, 101]⟩, .string ⟨#[101, 110, 100]⟩, .string ⟨#[112, 114, 105, 111, 114]⟩, .string ⟨#[110, 101, 120, 116]⟩, .string ⟨#[105, 110, 115, 101, 114, 116]⟩, .string ⟨#[100, 101, 108, 101, 116, 101]⟩, .string ⟨#[98, 97, 99, 107, 115, 112, 97, 99, 101]⟩, .string ⟨#[114, 101, 116, 117, 114, 110]⟩, .string ⟨#[116, 97, 98]⟩, .string ⟨#[101, 115, 99, 97, 112, 101]⟩, .string ⟨#[98, 97, 99, 107, 116, 97, 98]⟩]), (6, .int .i64 23)] fun TA => ?_
 refine W.seq (W.region ?_)
 refine RW.v ?_
 refine RW.nil ?_
 refine W.rg [(1, .map (some b1)), (5, .agg #[.string ⟨#[102, 49]⟩, .string ⟨#[102, 50]⟩, .string ⟨#[102, 51]⟩, .string ⟨#[102, 52]⟩, .string ⟨#[102, 53]⟩, .string ⟨#[102, 54]⟩, .string ⟨#[102, 55]⟩, .string ⟨#[102, 56]⟩, .string ⟨#[102, 57]⟩, .string ⟨#[102, 49, 48]⟩, .string ⟨#[102, 49, 49]⟩, .string ⟨#[102, 49, 50]⟩, .string ⟨#[117, 112]⟩, .string ⟨#[100, 111, 119, 110]⟩, .string ⟨#[108, 101, 102, 116]⟩, .string ⟨#[114, 105, 103, 104, 116]⟩, .string ⟨#[104, 111, 109, 101]⟩, .string ⟨#[101, 110, 100]⟩, .string ⟨#[112, 114, 105, 111, 114]⟩, .string ⟨#[110, 101, 120, 116]⟩, .string ⟨#[105, 110, 115, 101, 114, 116]⟩, .string ⟨#[100, 101, 108, 101, 116, 101]⟩, .string ⟨#[98, 97, 99, 107, 115, 112, 97, 99, 101]⟩, .string ⟨#[114, 101, 116, 117, 114, 110]⟩, .string ⟨#[116, 97, 98]⟩, .string ⟨#[101, 115, 99, 97, 112, 101]⟩, .string ⟨#[98, 97, 99, 107, 116, 97, 98]⟩]), (6, .int .i64 23), (7, .bool true)] fun TA => ?_
 refine W.seq ?_
 refine W.c1 ?_
 refine W.skip ?_
 refine W.seq ?_
 refine W.block ?_
 refine W.seq (W.region ?_)
 refine RW.v ?_
 refine RW.val (v := .string ⟨#[114, 101, 116, 117, 114, 110]⟩) (by kernel_rfl) (by kernel_rfl) (by kernel_rfl) (by kernel_rfl) ?_
 iterate 2 refine RW.v ?_
 refine RW.nil ?_
 refine W.rg [(1, .map (some b1)), (2, .int .i64 23), (3, .string ⟨#[114, 101, 116, 117, 114, 110]⟩), (5, .agg #[.string ⟨#[102, 49]⟩, .string ⟨#[102, 50]⟩, .string ⟨#[102, 51]⟩, .string ⟨#[102, 52]⟩, .string ⟨#[102, 53]⟩, .string ⟨#[102, 54]⟩, .string ⟨#[102, 55]⟩, .string ⟨#[102, 56]⟩, .string ⟨#[102, 57]⟩, .string ⟨#[102, 49, 48]⟩, .string ⟨#[102, 49, 49]⟩, .string ⟨#[102, 49, 50]⟩, .string ⟨#[117, 112]⟩, .string ⟨#[100, 111, 119, 110]⟩, .string ⟨#[108, 101, 102, 116]⟩, .string ⟨#[114, 105, 103, 104, 116]⟩, .string ⟨#[104, 111, 109, 101]⟩, .string ⟨#[101, 110, 100]⟩, .string ⟨#[112, 114, 105, 111, 114]⟩, .string ⟨#[110, 101, 120, 116]⟩, .string ⟨#[105, 110, 115, 101, 114, 116]⟩, .string ⟨#[100, 101, 108, 101, 116, 101]⟩, .string ⟨#[98, 97, 99, 107, 115, 112, 97, 99, 101]⟩, .string ⟨#[114, 101, 116, 117, 114, 110]⟩, .string ⟨#[116, 97, 98]⟩, .string ⟨#[101, 115, 99, 97, 112, 101]⟩, .string ⟨#[98, 97, 99, 107, 116, 97, 98]⟩]), (6, .int .i64 23)] fun TA => ?_
 refine W.region ?_
 iterate 4 refine RW.v ?_
 refine RW.upL H 0 [(.string ⟨#[102, 49]⟩, .int .i64 2097153), (.string ⟨#[102, 50]⟩, .int .i64 2097154), (.string ⟨#[102, 51]⟩, .int .i64 2097155), (.string ⟨#[102, 52]⟩, .int .i64 2097156), (.string ⟨#[102, 53]⟩, .int .i64 2097157), (.string ⟨#[102, 54]⟩, .int .i64 2097158), (.string ⟨#[102, 55]⟩, .int .i64 2097159), (.string ⟨#[102, 56]⟩, .int .i64 2097160), (.string ⟨#[102, 57]⟩, .int .i64 2097161), (.string ⟨#[102, 49, 48]⟩, .int .i64 2097162), (.string ⟨#[102, 49, 49]⟩, .int .i64 2097163), (.string ⟨#[102, 49, 50]⟩, .int .i64 2097164), (.string ⟨#[117, 112]⟩, .int .i64 2097165), (.string ⟨#[100, 111, 119, 110]⟩, .int .i64 2097166), (.string ⟨#[108, 101, 102, 116]⟩, .int .i64 2097167), (.string ⟨#[114, 105, 103, 104, 116]⟩, .int .i64 2097168), (.string ⟨#[104, 111, 109, 101]⟩, .int .i64 2097169), (.string ⟨#[101, 110, 100]⟩, .int .i64 2097170), (.string ⟨#[112, 114, 105, 111, 114]⟩, .int .i64 2097171), (.string ⟨#[110, 101, 120, 116]⟩, .int .i64 2097172), (.string ⟨#[105, 110, 115, 101, 114, 116]⟩, .int .i64 2097173), (.string ⟨#[100, 101, 108, 101, 116, 101]⟩, .int .i64 2097174), (.string ⟨#[98, 97, 99, 107, 115, 112, 97, 99, 101]⟩, .int .i64 2097175), (.string ⟨#[114, 101, 116, 117, 114, 110]⟩, .int .i64 2097176)] 24 ?_
 clear H; intro _ _ H; dsimp only [setL, delL] at H
 refine RW.nil ?_
 refine blkQ_normal ?_
 refine W.rg [(1, .map (some b1)), (5, .agg #[.string ⟨#[102, 49]⟩, .string ⟨#[102, 50]⟩, .string ⟨#[102, 51]⟩, .string ⟨#[102, 52]⟩, .string ⟨#[102, 53]⟩, .string ⟨#[102, 54]⟩, .string ⟨#[102, 55]⟩, .string ⟨#[102, 56]⟩, .string ⟨#[102, 57]⟩, .string ⟨#[102, 49, 48]⟩, .string ⟨#[102, 49, 49]⟩, .string ⟨#[102, 49, 50]⟩, .string ⟨#[117, 112]⟩, .string ⟨#[100, 111, 119, 110]⟩, .string ⟨#[108, 101, 102, 116]⟩, .string ⟨#[114, 105, 103, 104, 116]⟩, .string ⟨#[104, 111, 109, 101]⟩, .string ⟨#[101, 110, 100]⟩, .string ⟨#[112, 114, 105, 111, 114]⟩, .string ⟨#[110, 101, 120, 116]⟩, .string ⟨#[105, 110, 115, 101, 114, 116]⟩, .string ⟨#[100, 101, 108, 101, 116, 101]⟩, .string ⟨#[98, 97, 99, 107, 115, 112, 97, 99, 101]⟩, .string ⟨#[114, 101, 116, 117, 114, 110]⟩, .string ⟨#[116, 97, 98]⟩, .string ⟨#[101, 115, 99, 97, 112, 101]⟩, .string ⟨#[98, 97, 99, 107, 116, 97, 98]⟩]), (6, .int .i64 23)] fun TA => ?_
 refine W.region ?_
 iterate 2 refine RW.v ?_
 refine RW.nil ?_
 refine WL.once ?_
 refine W.rg [(1, .map (some b1)), (5, .agg #[.string ⟨#[102, 49]⟩, .string ⟨#[102, 50]⟩, .string ⟨#[102, 51]⟩, .string ⟨#[102, 52]⟩, .string ⟨#[102, 53]⟩, .string ⟨#[102, 54]⟩, .string ⟨#[102, 55]⟩, .string ⟨#[102, 56]⟩, .string ⟨#[102, 57]⟩, .string ⟨#[102, 49, 48]⟩, .string ⟨#[102, 49, 49]⟩, .string ⟨#[102, 49, 50]⟩, .string ⟨#[117, 112]⟩, .string ⟨#[100, 111, 119, 110]⟩, .string ⟨#[108, 101, 102, 116]⟩, .string ⟨#[114, 105, 103, 104, 116]⟩, .string ⟨#[104, 111, 109, 101]⟩, .string ⟨#[101, 110, 100]⟩, .string ⟨#[112, 114, 105, 111, 114]⟩, .string ⟨#[110, 101, 120, 116]⟩, .string ⟨#[105, 110, 115, 101, 114, 116]⟩, .string ⟨#[100, 101, 108, 101, 116, 101]⟩, .string ⟨#[98, 97, 99, 107, 115, 112, 97, 99, 101]⟩, .string ⟨#[114, 101, 116, 117, 114, 110]⟩, .string ⟨#[116, 97, 98]⟩, .string ⟨#[101, 115, 99, 97, 112, 101]⟩, .string ⟨#[98, 97, 99, 107, 116, 97, 98]⟩]), (6, .int .i64 24)] fun TA => ?_
 refine W.seq (W.region ?_)
 refine RW.v ?_
 refine RW.nil ?_
 refine W.rg [(1, .map (some b1)), (5, .agg #[.string ⟨#[102, 49]⟩, .string ⟨#[102, 50]⟩, .string ⟨#[102, 51]⟩, .string ⟨#[102, 52]⟩, .string ⟨#[102, 53]⟩, .string ⟨#[102, 54]⟩, .string ⟨#[102, 55]⟩, .string ⟨#[102, 56]⟩, .string ⟨#[102, 57]⟩, .string ⟨#[102, 49, 48]⟩, .string ⟨#[102, 49, 49]⟩, .string ⟨#[102, 49, 50]⟩, .string ⟨#[117, 112]⟩, .string ⟨#[100, 111, 119, 110]⟩, .string ⟨#[108, 101, 102, 116]⟩, .string ⟨#[114, 105, 103, 104, 116]⟩, .string ⟨#[104, 111, 109, 101]⟩, .string ⟨#[101, 110, 100]⟩, .string ⟨#[112, 114, 105, 111, 114]⟩, .string ⟨#[110, 101, 120, 116]⟩, .string ⟨#[105, 110, 115, 101, 114, 116]⟩, .string ⟨#[100, 101, 108, 101, 116, 101]⟩, .string ⟨#[98, 97, 99, 107, 115, 112, 97, 99, 101]⟩, .string ⟨#[114, 101, 116, 117, 114, 110]⟩, .string ⟨#[116, 97, 98]⟩, .string ⟨#[101, 115, 99, 97, 112, 101]⟩, .string ⟨#[98, 97, 99, 107, 116, 97, 98]⟩]), (6, .int .i64 24), (7, .bool true)] fun TA => ?_
 refine W.seq ?_
 refine W.c1 ?_
 refine W.skip ?_
 refine W.seq ?_
 refine W.block ?_
 refine W.seq (W.region ?_)
 refine RW.v ?_
 refine RW.val (v := .string ⟨#[116, 97, 98]⟩) (by kernel_rfl) (by kernel_rfl) (by kernel_rfl) (by kernel_rfl) ?_
 iterate 2 refine RW.v ?_
 refine RW.nil ?_
 refine W.rg [(1, .map (some b1)), (2, .int .i64 24), (3, .string ⟨#[116, 97, 98]⟩), (5, .agg #[.string ⟨#[102, 49]⟩, .string ⟨#[102, 50]⟩, .string ⟨#[102, 51]⟩, .string ⟨#[102, 52]⟩, .string ⟨#[102, 53]⟩, .string ⟨#[102, 54]⟩, .string ⟨#[102, 55]⟩, .string ⟨#[102, 56]⟩, .string ⟨#[102, 57]⟩, .string ⟨#[102, 49, 48]⟩, .string ⟨#[102, 49, 49]⟩, .string ⟨#[102, 49, 50]⟩, .string ⟨#[117, 112]⟩, .string ⟨#[100, 111, 119, 110]⟩, .string ⟨#[108, 101, 102, 116]⟩, .string ⟨#[114, 105, 103, 104, 116]⟩, .string ⟨#[104, 111, 109, 101]⟩, .string ⟨#[101, 110, 100]⟩, .string ⟨#[112, 114, 105, 111, 114]⟩, .string ⟨#[110, 101, 120, 116]⟩, .string ⟨#[105, 110, 115, 101, 114, 116]⟩, .string ⟨#[100, 101, 108, 101, 116, 101]⟩, .string ⟨#[98, 97, 99, 107, 115, 112, 97, 99, 101]⟩, .string ⟨#[114, 101, 116, 117, 114, 110]⟩, .string ⟨#[116, 97, 98]⟩, .string ⟨#[101, 115, 99, 97, 112, 101]⟩, .string ⟨#[98, 97, 99, 107, 116, 97, 98]⟩]), (6, .int .i64 24)] fun TA => ?_
 refine W.region ?_
 iterate 4 refine RW.v ?_
 refine RW.upL H 0 [(.string ⟨#[102, 49]⟩, .int .i64 2097153), (.string ⟨#[102, 50]⟩, .int .i64 2097154), (.string ⟨#[102, 51]⟩, .int .i64 2097155), (.string ⟨#[102, 52]⟩, .int .i64 2097156), (.string ⟨#[102, 53]⟩, .int .i64 2097157), (.string ⟨#[102, 54]⟩, .int .i64 2097158), (.string ⟨#[102, 55]⟩, .int .i64 2097159), (.string ⟨#[102, 56]⟩, .int .i64 2097160), (.string ⟨#[102, 57]⟩, .int .i64 2097161), (.string ⟨#[102, 49, 48]⟩, .int .i64 2097162), (.string ⟨#[102, 49, 49]⟩, .int .i64 2097163), (.string ⟨#[102, 49, 50]⟩, .int .i64 2097164), (.string ⟨#[117, 112]⟩, .int .i64 2097165), (.string ⟨#[100, 111, 119, 110]⟩, .int .i64 2097166), (.string ⟨#[108, 101, 102, 116]⟩, .int .i64 2097167), (.string ⟨#[114, 105, 103, 104, 116]⟩, .int .i64 2097168), (.string ⟨#[104, 111, 109, 101]⟩, .int .i64 2097169), (.string ⟨#[101, 110, 100]⟩, .int .i64 2097170), (.string ⟨#[112, 114, 105, 111, 114]⟩, .int .i64 2097171), (.string ⟨#[110, 101, 120, 116]⟩, .int .i64 2097172), (.string ⟨#[105, 110, 115, 101, 114, 116]⟩, .int .i64 2097173), (.string ⟨#[100, 101, 108, 101, 116, 101]⟩, .int .i64 2097174), (.string ⟨#[98, 97, 99, 107, 115, 112, 97, 99, 101]⟩, .int .i64 2097175), (.string ⟨#[114, 101, 116, 117, 114, 110]⟩, .int .i64 2097176), (.string ⟨#[116, 97, 98]⟩, .int .i64 2097177)] 25 ?_
 clear H; intro _ _ H; dsimp only [setL, delL] at H
 refine RW.nil ?_
 refine blkQ_normal ?_
 refine W.rg [(1, .map (some b1)), (5, .agg #[.string ⟨#[102, 49]⟩, .string ⟨#[102, 50]⟩, .string ⟨#[102, 51]⟩, .string ⟨#[102, 52]⟩, .string ⟨#[102, 53]⟩, .string ⟨#[102, 54]⟩, .string ⟨#[102, 55]⟩, .string ⟨#[102, 56]⟩, .string ⟨#[102, 57]⟩, .string ⟨#[102, 49, 48]⟩, .string ⟨#[102, 49, 49]⟩, .string ⟨#[102, 49, 50]⟩, .string ⟨#[117, 112]⟩, .string ⟨#[100, 111, 119, 110]⟩, .string ⟨#[108, 101, 102, 116]⟩, .string ⟨#[114, 105, 103, 104, 116]⟩, .string ⟨#[104, 111, 109, 101]⟩, .string ⟨#[101, 110, 100]⟩, .string ⟨#[112, 114, 105, 111, 114]⟩, .string ⟨#[110, 101, 120, 116]⟩, .string ⟨#[105, 110, 115, 101, 114, 116]⟩, .string ⟨#[100, 101, 108, 101, 116, 101]⟩, .string ⟨#[98, 97, 99, 107, 115, 112, 97, 99, 101]⟩, .string ⟨#[114, 101, 116, 117, 114, 110]⟩, .string ⟨#[116, 97, 98]⟩, .string ⟨#[101, 115, 99, 97, 112, 101]⟩, .string ⟨#[98, 97, 99, 107, 116, 97, 98]⟩]), (6, .int .i64 24)] fun TA => ?_
 refine W.region ?_
 iterate 2 refine RW.v ?_
 refine RW.nil ?_
 refine WL.once ?_
 refine W.rg [(1, .map (some b1)), (5, .agg #[.string ⟨#[102, 49]⟩, .string ⟨#[102, 50]⟩, .string ⟨#[102, 51]⟩, .string ⟨#[102, 52]⟩, .string ⟨#[102, 53]⟩, .string ⟨#[102, 54]⟩, .string ⟨#[102, 55]⟩, .string ⟨#[102, 56]⟩, .string ⟨#[102, 57]⟩, .string ⟨#[102, 49, 48]⟩, .string ⟨#[102, 49, 49]⟩, .string ⟨#[102, 49, 50]⟩, .string ⟨#[117, 112]⟩, .string ⟨#[100, 111, 119, 110]⟩, .string ⟨#[108, 101, 102, 116]⟩, .string ⟨#[114, 105, 103, 104, 116]⟩, .string ⟨#[104, 111, 109, 101]⟩, .string ⟨#[101, 110, 100]⟩, .string ⟨#[112, 114, 105, 111, 114]⟩, .string ⟨#[110, 101, 120, 116]⟩, .string ⟨#[105, 110, 115, 101, 114, 116]⟩, .string ⟨#[100, 101, 108, 101, 116, 101]⟩, .string ⟨#[98, 97, 99, 107, 115, 112, 97, 99, 101]⟩, .string ⟨#[114, 101, 116, 117, 114, 110]⟩, .string ⟨#[116, 97, 98]⟩, .string ⟨#[101, 115, 99, 97, 112, 101]⟩, .string ⟨#[98, 97, 99, 107, 116, 97, 98]⟩]), (6, .int .i64 25)] fun TA => ?_
 refine W.seq (W.region ?_)
 refine RW.v ?_
 refine RW.nil ?_
 refine W.rg [(1, .map (some b1)), (5, .agg #[.string ⟨#[102, 49]⟩, .string ⟨#[102, 50]⟩, .string ⟨#[102, 51]⟩, .string ⟨#[102, 52]⟩, .string ⟨#[102, 53]⟩, .string ⟨#[102, 54]⟩, .string ⟨#[102, 55]⟩, .string ⟨#[102, 56]⟩, .string ⟨#[102, 57]⟩, .string ⟨#[102, 49, 48]⟩, .string ⟨#[102, 49, 49]⟩, .string ⟨#[102, 49, 50]⟩, .string ⟨#[117, 112]⟩, .string ⟨#[100, 111, 119, 110]⟩, .string ⟨#[108, 101, 102, 116]⟩, .string ⟨#[114, 105, 103, 104, 116]⟩, .string ⟨#[104, 111, 109, 101]⟩, .string ⟨#[101, 110, 100]⟩, .string ⟨#[112, 114, 105, 111, 114]⟩, .string ⟨#[110, 101, 120, 116]⟩, .string ⟨#[105, 110, 115, 101, 114, 116]⟩, .string ⟨#[100, 101, 108, 101, 116, 101]⟩, .string ⟨#[98, 97, 99, 107, 115, 112, 97, 99, 101]⟩, .string ⟨#[114, 101, 116, 117, 114, 110]⟩, .string ⟨#[116, 97, 98]⟩, .string ⟨#[101, 115, 99, 97, 112, 101]⟩, .string ⟨#[98, 97, 99, 107, 116, 97, 98]⟩]), (6, .int .i64 25), (7, .bool true)] fun TA => ?_
 refine W.seq ?_
 refine W.c1 ?_
 refine W.skip ?_
 refine W.seq ?_
 refine W.block ?_
 refine W.seq (W.region ?_)
 refine RW.v ?_
 refine RW.val (v := .string ⟨#[101, 115, 99, 97, 112, 101]⟩) (by kernel_rfl) (by kernel_rfl) (by kernel_rfl) (by kernel_rfl) ?_
 iterate 2 refine RW.v ?_
 refine RW.nil ?_
 refine W.rg [(1, .map (some b1)), (2, .int .i64 25), (3, .string ⟨#[101, 115, 99, 97, 112, 101]⟩), (5, .agg #[.string ⟨#[102, 49]⟩, .string ⟨#[102, 50]⟩, .string ⟨#[102, 51]⟩, .string ⟨#[102, 52]⟩, .string ⟨#[102, 53]⟩, .string ⟨#[102, 54]⟩, .string ⟨#[102, 55]⟩, .string ⟨#[102, 56]⟩, .string ⟨#[102, 57]⟩, .string ⟨#[102, 49, 48]⟩, .string ⟨#[102, 49, 49]⟩, .string ⟨#[102, 49, 50]⟩, .string ⟨#[117, 112]⟩, .string ⟨#[100, 111, 119, 110]⟩, .string ⟨#[108, 101, 102, 116]⟩, .string ⟨#[114, 105, 103, 104, 116]⟩, .string ⟨#[104, 111, 109, 101]⟩, .string ⟨#[101, 110, 100]⟩, .string ⟨#[112, 114, 105, 111, 114]⟩, .string ⟨#[110, 101, 120, 116]⟩, .string ⟨#[105, 110, 115, 101, 114, 116]⟩, .string ⟨#[100, 101, 108, 101, 116, 101]⟩, .string ⟨#[98, 97, 99, 107, 115, 112, 97, 99, 101]⟩, .string ⟨#[114, 101, 116, 117, 114, 110]⟩, .string ⟨#[116, 97, 98]⟩, .string ⟨#[101, 115, 99, 97, 112, 101]⟩, .string ⟨#[98, 97, 99, 107, 116, 97, 98]⟩]), (6, .int .i64 25)] fun TA => ?_
 refine W.region ?_
 iterate 4 refine RW.v ?_
 refine RW.upL H 0 [(.string ⟨#[102, 49]⟩, .int .i64 2097153), (.string ⟨#[102, 50]⟩, .int .i64 2097154), (.string ⟨#[102, 51]⟩, .int .i64 2097155), (.string ⟨#[102, 52]⟩, .int .i64 2097156), (.string ⟨#[102, 53]⟩, .int .i64 2097157), (.string ⟨#[102, 54]⟩, .int .i64 2097158), (.string ⟨#[102, 55]⟩, .int .i64 2097159), (.string ⟨#[102, 56]⟩, .int .i64 2097160), (.string ⟨#[102, 57]⟩, .int .i64 2097161), (.string ⟨#[102, 49, 48]⟩, .int .i64 2097162), (.string ⟨#[102, 49, 49]⟩, .int .i64 2097163), (.string ⟨#[102, 49, 50]⟩, .int .i64 2097164), (.string ⟨#[117, 112]⟩, .int .i64 2097165), (.string ⟨#[100, 111, 119, 110]⟩, .int .i64 2097166), (.string ⟨#[108, 101, 102, 116]⟩, .int .i64 2097167), (.string ⟨#[114, 105, 103, 104, 116]⟩, .int .i64 2097168), (.string ⟨#[104, 111, 109, 101]⟩, .int .i64 2097169), (.string ⟨#[101, 110, 100]⟩, .int .i64 2097170), (.string ⟨#[112, 114, 105, 111, 114]⟩, .int .i64 2097171), (.string ⟨#[110, 101, 120, 116]⟩, .int .i64 2097172), (.string ⟨#[105, 110, 115, 101, 114, 116]⟩, .int .i64 2097173), (.string ⟨#[100, 101, 108, 101, 116, 101]⟩, .int .i64 2097174), (.string ⟨#[98, 97, 99, 107, 115, 112, 97, 99, 101]⟩, .int .i64 2097175), (.string ⟨#[114, 101, 116, 117, 114, 110]⟩, .int .i64 2097176), (.string ⟨#[116, 97, 98]⟩, .int .i64 2097177), (.string ⟨#[101, 115, 99, 97, 112, 101]⟩, .int .i64 2097178)] 26 ?_
 clear H; intro _ _ H; dsimp only [setL, delL] at H
 refine RW.nil ?_
 refine blkQ_normal ?_
 refine W.rg [(1, .map (some b1)), (5, .agg #[.string ⟨#[102, 49]⟩, .string ⟨#[102, 50]⟩, .string ⟨#[102, 51]⟩, .string ⟨#[102, 52]⟩, .string ⟨#[102, 53]⟩, .string ⟨#[102, 54]⟩, .string ⟨#[102, 55]⟩, .string ⟨#[102, 56]⟩, .string ⟨#[102, 57]⟩, .string ⟨#[102, 49, 48]⟩, .string ⟨#[102, 49, 49]⟩, .string ⟨#[102, 49, 50]⟩, .string ⟨#[117, 112]⟩, .string ⟨#[100, 111, 119, 110]⟩, .string ⟨#[108, 101, 102, 116]⟩, .string ⟨#[114, 105, 103, 104, 116]⟩, .string ⟨#[104, 111, 109, 101]⟩, .string ⟨#[101, 110, 100]⟩, .string ⟨#[112, 114, 105, 111, 114]⟩, .string ⟨#[110, 101, 120, 116]⟩, .string ⟨#[105, 110, 115, 101, 114, 116]⟩, .string ⟨#[100, 101, 108, 101, 116, 101]⟩, .string ⟨#[98, 97, 99, 107, 115, 112, 97, 99, 101]⟩, .string ⟨#[114, 101, 116, 117, 114, 110]⟩, .string ⟨#[116, 97, 98]⟩, .string ⟨#[101, 115, 99, 97, 112, 101]⟩, .string ⟨#[98, 97, 99, 107, 116, 97, 98]⟩]), (6, .int .i64 25)] fun TA => ?_
 refine W.region ?_
 iterate 2 refine RW.v ?_
 refine RW.nil ?_
 refine WL.once ?_
 refine W.rg [(1, .map (some b1)), (5, .agg #[.string ⟨#[102, 49]⟩, .string ⟨#[102, 50]⟩, .string ⟨#[102, 51]⟩, .string ⟨#[102, 52]⟩, .string ⟨#[102, 53]⟩, .string ⟨#[102, 54]⟩, .string ⟨#[102, 55]⟩, .string ⟨#[102, 56]⟩, .string ⟨#[102, 57]⟩, .string ⟨#[102, 49, 48]⟩, .string ⟨#[102, 49, 49]⟩, .string ⟨#[102, 49, 50]⟩, .string ⟨#[117, 112]⟩, .string ⟨#[100, 111, 119, 110]⟩, .string ⟨#[108, 101, 102, 116]⟩, .string ⟨#[114, 105, 103, 104, 116]⟩, .string ⟨#[104, 111, 109, 101]⟩, .string ⟨#[101, 110, 100]⟩, .string ⟨#[112, 114, 105, 111, 114]⟩, .string ⟨#[110, 101, 120, 116]⟩, .string ⟨#[105, 110, 115, 101, 114, 116]⟩, .string ⟨#[100, 101, 108, 101, 116, 101]⟩, .string ⟨#[98, 97, 99, 107, 115, 112, 97, 99, 101]⟩, .string ⟨#[114, 101, 116, 117, 114, 110]⟩, .string ⟨#[116, 97, 98]⟩, .string ⟨#[101, 115, 99, 97, 112, 101]⟩, .string ⟨#[98, 97, 99, 107, 116, 97, 98]⟩]), (6, .int .i64 26)] fun TA => ?_
 refine W.seq (W.region ?_)
 refine RW.v ?_
 refine RW.nil ?_
 refine W.rg [(1, .map (some b1)), (5, .agg #[.string ⟨#[102, 49]⟩, .string ⟨#[102, 50]⟩, .string ⟨#[102, 51]⟩, .string ⟨#[102, 52]⟩, .string ⟨#[102, 53]⟩, .string ⟨#[102, 54]⟩, .string ⟨#[102, 55]⟩, .string ⟨#[102, 56]⟩, .string ⟨#[102, 57]⟩, .string ⟨#[102, 49, 48]⟩, .string ⟨#[102, 49, 49]⟩, .string ⟨#[102, 49, 50]⟩, .string ⟨#[117, 112]⟩, .string ⟨#[100, 111, 119, 110]⟩, .string ⟨#[108, 101, 102, 116]⟩, .string ⟨#[114, 105, 103, 104, 116]⟩, .string ⟨#[104, 111, 109, 101]⟩, .string ⟨#[101, 110, 100]⟩, .string ⟨#[112, 114, 105, 111, 114]⟩, .string ⟨#[110, 101, 120, 116]⟩, .string ⟨#[105, 110, 115, 101, 114, 116]⟩, .string ⟨#[100, 101, 108, 101, 116, 101]⟩, .string ⟨#[98, 97, 99, 107, 115, 112, 97, 99, 101]⟩, .string ⟨#[114, 101, 116, 117, 114, 110]⟩, .string ⟨#[116, 97, 98]⟩, .string ⟨#[101, 115, 99, 97, 112, 101]⟩, .string ⟨#[98, 97, 99, 107, 116, 97, 98]⟩]), (6, .int .i64 26), (7, .bool true)] fun TA => ?_
 refine W.seq ?_
 refine W.c1 ?_
 refine W.skip ?_
 refine W.seq ?_
 refine W.block ?_
 refine W.seq (W.region ?_)
 refine RW.v ?_
 refine RW.val (v := .string ⟨#[98, 97, 99, 107, 116, 97, 98]⟩) (by kernel_rfl) (by kernel_rfl) (by kernel_rfl) (by kernel_rfl) ?_
 iterate 2 refine RW.v ?_
 refine RW.nil ?_
 refine W.rg [(1, .map (some b1)), (2, .int .i64 26), (3, .string ⟨#[98, 97, 99, 107, 116, 97, 98]⟩), (5, .agg #[.string ⟨#[102, 49]⟩, .string ⟨#[102, 50]⟩, .string ⟨#[102, 51]⟩, .string ⟨#[102, 52]⟩, .string ⟨#[102, 53]⟩, .string ⟨#[102, 54]⟩, .string ⟨#[102, 55]⟩, .string ⟨#[102, 56]⟩, .string ⟨#[102, 57]⟩, .string ⟨#[102, 49, 48]⟩, .string ⟨#[102, 49, 49]⟩, .string ⟨#[102, 49, 50]⟩, .string ⟨#[117, 112]⟩, .string ⟨#[100, 111, 119, 110]⟩, .string ⟨#[108, 101, 102, 116]⟩, .string ⟨#[114, 105, 103, 104, 116]⟩, .string ⟨#[104, 111, 109, 101]⟩, .string ⟨#[101, 110, 100]⟩, .string ⟨#[112, 114, 105, 111, 114]⟩, .string ⟨#[110, 101, 120, 116]⟩, .string ⟨#[105, 110, 115, 101, 114, 116]⟩, .string ⟨#[100, 101, 108, 101, 116, 101]⟩, .string ⟨#[98, 97, 99, 107, 115, 112, 97, 99, 101]⟩, .string ⟨#[114, 101, 116, 117, 114, 110]⟩, .string ⟨#[116, 97, 98]⟩, .string ⟨#[101, 115, 99, 97, 112, 101]⟩, .string ⟨#[98, 97, 99, 107, 116, 97, 98]⟩]), (6, .int .i64 26)] fun TA => ?_
 refine W.region ?_
 iterate 4 refine RW.v ?_
 refine RW.upL H 0 [(.string ⟨#[102, 49]⟩, .int .i64 2097153), (.string ⟨#[102, 50]⟩, .int .i64 2097154), (.string ⟨#[102, 51]⟩, .int .i64 2097155), (.string ⟨#[102, 52]⟩, .int .i64 2097156), (.string ⟨#[102, 53]⟩, .int .i64 2097157), (.string ⟨#[102, 54]⟩, .int .i64 2097158), (.string ⟨#[102, 55]⟩, .int .i64 2097159), (.string ⟨#[102, 56]⟩, .int .i64 2097160), (.string ⟨#[102, 57]⟩, .int .i64 2097161), (.string ⟨#[102, 49, 48]⟩, .int .i64 2097162), (.string ⟨#[102, 49, 49]⟩, .int .i64 2097163), (.string ⟨#[102, 49, 50]⟩, .int .i64 2097164), (.string ⟨#[117, 112]⟩, .int .i64 2097165), (.string ⟨#[100, 111, 119, 110]⟩, .int .i64 2097166), (.string ⟨#[108, 101, 102, 116]⟩, .int .i64 2097167), (.string ⟨#[114, 105, 103, 104, 116]⟩, .int .i64 2097168), (.string ⟨#[104, 111, 109, 101]⟩, .int .i64 2097169), (.string ⟨#[101, 110, 100]⟩, .int .i64 2097170), (.string ⟨#[112, 114, 105, 111, 114]⟩, .int .i64 2097171), (.string ⟨#[110, 101, 120, 116]⟩, .int .i64 2097172), (.string ⟨#[105, 110, 115, 101, 114, 116]⟩, .int .i64 2097173), (.string ⟨#[100, 101, 108, 101, 116, 101]⟩, .int .i64 2097174), (.string ⟨#[98, 97, 99, 107, 115, 112, 97, 99, 101]⟩, .int .i64 2097175), (.string ⟨#[114, 101, 116, 117, 114, 110]⟩, .int .i64 2097176), (.string ⟨#[116, 97, 98]⟩, .int .i64 2097177), (.string ⟨#[101, 115, 99, 97, 112, 101]⟩, .int .i64 2097178), (.string ⟨#[98, 97, 99, 107, 116, 97, 98]⟩, .int .i64 2097179)] 27 ?_
 clear H; intro _ _ H; dsimp only [setL, delL] at H
 refine RW.nil ?_
 refine blkQ_normal ?_
 refine W.rg [(1, .map (some b1)), (5, .agg #[.string ⟨#[102, 49]⟩, .string ⟨#[102, 50]⟩, .string ⟨#[102, 51]⟩, .string ⟨#[102, 52]⟩, .string ⟨#[102, 53]⟩, .string ⟨#[102, 54]⟩, .string ⟨#[102, 55]⟩, .string ⟨#[102, 56]⟩, .string ⟨#[102, 57]⟩, .string ⟨#[102, 49, 48]⟩, .string ⟨#[102, 49, 49]⟩, .string ⟨#[102, 49, 50]⟩, .string ⟨#[117, 112]⟩, .string ⟨#[100, 111, 119, 110]⟩, .string ⟨#[108, 101, 102, 116]⟩, .string ⟨#[114, 105, 103, 104, 116]⟩, .string ⟨#[104, 111, 109, 101]⟩, .string ⟨#[101, 110, 100]⟩, .string ⟨#[112, 114, 105, 111, 114]⟩, .string ⟨#[110, 101, 120, 116]⟩, .string ⟨#[105, 110, 115, 101, 114, 116]⟩, .string ⟨#[100, 101, 108, 101, 116, 101]⟩, .string ⟨#[98, 97, 99, 107, 115, 112, 97, 99, 101]⟩, .string ⟨#[114, 101, 116, 117, 114, 110]⟩, .string ⟨#[116, 97, 98]⟩, .string ⟨#[101, 115, 99, 97, 112, 101]⟩, .string ⟨#[98, 97, 99, 107, 116, 97, 98]⟩]), (6, .int .i64 26)] fun TA => ?_
 refine W.region ?_
 iterate 2 refine RW.v ?_
 refine RW.nil ?_
 refine WL.once ?_
 refine W.rg [(1, .map (some b1)), (5, .agg #[.string ⟨#[102, 49]⟩, .string ⟨#[102, 50]⟩, .string ⟨#[102, 51]⟩, .string ⟨#[102, 52]⟩, .string ⟨#[102, 53]⟩, .string ⟨#[102, 54]⟩, .string ⟨#[102, 55]⟩, .string ⟨#[102, 56]⟩, .string ⟨#[102, 57]⟩, .string ⟨#[102, 49, 48]⟩, .string ⟨#[102, 49, 49]⟩, .string ⟨#[102, 49, 50]⟩, .string ⟨#[117, 112]⟩, .string ⟨#[100, 111, 119, 110]⟩, .string ⟨#[108, 101, 102, 116]⟩, .string ⟨#[114, 105, 103, 104, 116]⟩, .string ⟨#[104, 111, 109, 101]⟩, .string ⟨#[101, 110, 100]⟩, .string ⟨#[112, 114, 105, 111, 114]⟩, .string ⟨#[110, 101, 120, 116]⟩, .string ⟨#[105, 110, 115, 101, 114, 116]⟩, .string ⟨#[100, 101, 108, 101, 116, 101]⟩, .string ⟨#[98, 97, 99, 107, 115, 112, 97, 99, 101]⟩, .string ⟨#[114, 101, 116, 117, 114, 110]⟩, .string ⟨#[116, 97, 98]⟩, .string ⟨#[101, 115, 99, 97, 112, 101]⟩, .string ⟨#[98, 97, 99, 107, 116, 97, 98]⟩]), (6, .int .i64 27)] fun TA => ?_
 refine W.seq (W.region ?_)
 refine RW.v ?_
 refine RW.nil ?_
 refine W.rg [(1, .map (some b1)), (5, .agg #[.string ⟨#[102, 49]⟩, .string ⟨#[102, 50]⟩, .string ⟨#[102, 51]⟩, .string ⟨#[102, 52]⟩, .string ⟨#[102, 53]⟩, .string ⟨#[102, 54]⟩, .string ⟨#[102, 55]⟩, .string ⟨#[102, 56]⟩, .string ⟨#[102, 57]⟩, .string ⟨#[102, 49, 48]⟩, .string ⟨#[102, 49, 49]⟩, .string ⟨#[102, 49, 50]⟩, .string ⟨#[117, 112]⟩, .string ⟨#[100, 111, 119, 110]⟩, .string ⟨#[108, 101, 102, 116]⟩, .string ⟨#[114, 105, 103, 104, 116]⟩, .string ⟨#[104, 111, 109, 101]⟩, .string ⟨#[101, 110, 100]⟩, .string ⟨#[112, 114, 105, 111, 114]⟩, .string ⟨#[110, 101, 120, 116]⟩, .string ⟨#[105, 110, 115, 101, 114, 116]⟩, .string ⟨#[100, 101, 108, 101, 116, 101]⟩, .string ⟨#[98, 97, 99, 107, 115, 112, 97, 99, 101]⟩, .string ⟨#[114, 101, 116, 117, 114, 110]⟩, .string ⟨#[116, 97, 98]⟩, .string ⟨#[101, 115, 99, 97, 112, 101]⟩, .string ⟨#[98, 97, 99, 107, 116, 97, 98]⟩]), (6, .int .i64 27), (7, .bool false)] fun TA => ?_
 refine W.seq ?_
 refine W.c0 ?_
 refine W.exit _ ?_
 refine seqQ_exit ?_
 refine onceQ_exit ?_
 refine blkQ_here ?_
 refine W.seq (W.region ?_)
 iterate 2 refine RW.v ?_
 refine RW.nil ?_
 refine W.ret ?_
 refine endG (by rfl) (by exact resL_tmp rfl) ?_
 exact ⟨_, rfl, H⟩
end
end Go.Proofs.YtpjpefcpbkmilaaDoor
