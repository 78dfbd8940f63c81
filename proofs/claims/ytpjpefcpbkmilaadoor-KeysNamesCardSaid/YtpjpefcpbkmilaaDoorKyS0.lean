/-
  Blocks of the second memory that the steps name. Conditions: none.
-/
import Derived.Test.YtpjpefcpbkmilaaDoorRowsU
import Derived.Test.YtpjpefcpbkmilaaDoorSnq
import Derived.KernelRfl
namespace Go.Proofs.YtpjpefcpbkmilaaDoor
set_option maxRecDepth 1000000
noncomputable def vi (i : Int) : Value := .int .i64 i
theorem same0 : SameFn Tryd.prog 77 := ⟨Tryd.f77, Tryd.func77, by kernel_rfl, by kernel_rfl, by kernel_rfl, by kernel_rfl⟩
theorem base_right : Kn.Right ⟨[], rowsU, [77], []⟩ 16 Tryd.prog := known_same noK_right same0
noncomputable def kysB0 : Blk2 := (.row ⟨[(vi (Int.ofNat 67108901)), (vi (Int.ofNat 32)), (vi (Int.ofNat 45))], 3, true⟩)
noncomputable def kysB1 : Blk2 := (.row ⟨[(vi (Int.ofNat 236978189)), (vi (Int.ofNat 67108909)), (vi (Int.ofNat 60)), (vi (Int.ofNat 134217741)), (vi (Int.ofNat 127)), (vi (Int.ofNat 33554433)), (vi (Int.ofNat 0))], 3, true⟩)
noncomputable def kysB2 : Blk2 := (.row ⟨[(.int .u8 (Int.ofNat 97)), (.int .u8 (Int.ofNat 27)), (.int .u8 (Int.ofNat 91)), (.int .u8 (Int.ofNat 65)), (.int .u8 (Int.ofNat 98)), (.int .u8 (Int.ofNat 27)), (.int .u8 (Int.ofNat 120)), (.int .u8 (Int.ofNat 27))], 5, false⟩)
noncomputable def kysB3 : Blk2 := (.row ⟨[(vi (Int.ofNat 97)), (vi (Int.ofNat 2097165)), (vi (Int.ofNat 98)), (vi (Int.ofNat 134217848))], 3, true⟩)
noncomputable def kysB4 : Blk2 := (.row ⟨[(.int .u8 (Int.ofNat 27))], 5, true⟩)
noncomputable def kysB5 : Blk2 := (.row ⟨[(.int .u8 (Int.ofNat 27)), (.int .u8 (Int.ofNat 91)), (.int .u8 (Int.ofNat 49)), (.int .u8 (Int.ofNat 59)), (.int .u8 (Int.ofNat 53)), (.int .u8 (Int.ofNat 67)), (.int .u8 (Int.ofNat 27)), (.int .u8 (Int.ofNat 79)), (.int .u8 (Int.ofNat 80)), (.int .u8 (Int.ofNat 27)), (.int .u8 (Int.ofNat 91)), (.int .u8 (Int.ofNat 49)), (.int .u8 (Int.ofNat 53)), (.int .u8 (Int.ofNat 126)), (.int .u8 (Int.ofNat 27)), (.int .u8 (Int.ofNat 91)), (.int .u8 (Int.ofNat 90)), (.int .u8 (Int.ofNat 27)), (.int .u8 (Int.ofNat 91)), (.int .u8 (Int.ofNat 57)), (.int .u8 (Int.ofNat 113)), (.int .u8 (Int.ofNat 27)), (.int .u8 (Int.ofNat 91)), (.int .u8 (Int.ofNat 49)), (.int .u8 (Int.ofNat 50))], 5, false⟩)
noncomputable def kysB6 : Blk2 := (.row ⟨[(vi (Int.ofNat 69206032)), (vi (Int.ofNat 2097153)), (vi (Int.ofNat 2097157)), (vi (Int.ofNat 2097179)), (vi (Int.ofNat 27)), (vi (Int.ofNat 91)), (vi (Int.ofNat 49)), (vi (Int.ofNat 50))], 3, true⟩)
noncomputable def kysB7 : Blk2 := (.row ⟨[(.pointer (some ⟨190, 0, none⟩)), (.slice (some ⟨197, 0, some 1⟩) 4 4)], 58, false⟩)
noncomputable def kysB8 : Blk2 := (.row ⟨[(.int .u8 (Int.ofNat 67)), (.int .u8 (Int.ofNat 45)), (.int .u8 (Int.ofNat 97)), (.int .u8 (Int.ofNat 32))], 5, true⟩)
noncomputable def kysB9 : Blk2 := (.row ⟨[(.pointer (some ⟨190, 0, none⟩)), (.slice (some ⟨204, 0, some 1⟩) 9 9)], 58, false⟩)
noncomputable def kysB10 : Blk2 := (.row ⟨[(.int .u8 (Int.ofNat 67)), (.int .u8 (Int.ofNat 45)), (.int .u8 (Int.ofNat 97)), (.int .u8 (Int.ofNat 32)), (.int .u8 (Int.ofNat 77)), (.int .u8 (Int.ofNat 45)), (.int .u8 (Int.ofNat 84)), (.int .u8 (Int.ofNat 65)), (.int .u8 (Int.ofNat 66))], 5, true⟩)
noncomputable def kysB11 : Blk2 := (.row ⟨[(vi (Int.ofNat 1)), (vi (Int.ofNat 134217737)), (vi (Int.ofNat 2097165)), (vi (Int.negSucc 0)), (vi (Int.ofNat 0)), (vi (Int.ofNat 28))], 3, false⟩)
end Go.Proofs.YtpjpefcpbkmilaaDoor
