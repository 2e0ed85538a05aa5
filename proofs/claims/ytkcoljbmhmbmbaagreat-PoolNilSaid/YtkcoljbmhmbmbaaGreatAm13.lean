/- A part of a proof: a machine of abstract values that tells what functions of the program compute, and the plain facts on them. -/
import Derived.Test.YtkcoljbmhmbmbaaGreatAm12
import Derived.Test.YtkcoljbmhmbmbaaGreatAm7
import Derived.KernelRfl
import Derived.Test.YtkcoljbmhmbmbaaGreatAm9
import Derived.Test.YtkcoljbmhmbmbaaGreatAm10
import Derived.RangeFuncRecord
import Derived.Test.YtkcoljbmhmbmbaaGreatAm8
set_option linter.unusedVariables false
set_option linter.unusedSimpArgs false
set_option linter.unnecessarySimpa false
set_option linter.unusedSectionVars false
namespace Go.Am
abbrev QeW : Ty := (.arr 32 (.int .u8))
abbrev QeV : Ty := (.pair (.int .u32) .unit)
abbrev QeU : Type := (Int × List Int × List Int × Int × Int × Int × Unit)
abbrev QeT : Type := (Int × List ((List Int × Int × Unit) × ByteArray × Int × Unit) × List (Int × ByteArray × Unit) × Int × Unit)
end Go.Am
namespace Go.Am
open Go Go.Proofs
set_option maxRecDepth 100000
def Run.gen0 : dens QM.tout := (((1, ([0, 0, 0, 0, 0, 0, 0, 0, 0, 0, 0, 0, 0, 0, 0, 0, 0, 0, 0, 0, 0, 0, 0, 0, 0, 0, 0, 0, 0, 0, 0, 0], ([113, 204, 51, 115, 232, 45, 155, 36, 155, 134, 11, 93, 43, 105, 61, 93, 163, 17, 221, 217, 44, 202, 254, 63, 129, 214, 200, 191, 249, 149, 82, 226], (1600000000, (545259519, (1, ())))))), ([(1, ([(([0, 0, 0, 0, 0, 0, 0, 0, 0, 0, 0, 0, 0, 0, 0, 0, 0, 0, 0, 0, 0, 0, 0, 0, 0, 0, 0, 0, 0, 0, 0, 0], (4294967295, ())), (⟨List.toArray [0, 0, 0, 0, 98, 101, 100, 114, 111, 99, 107]⟩, (4294967295, ())))], ([(5000, (⟨List.toArray []⟩, ()))], (0, ()))))], ())), ())
def Run.hdr0 : QeU := (1, ([0, 0, 0, 0, 0, 0, 0, 0, 0, 0, 0, 0, 0, 0, 0, 0, 0, 0, 0, 0, 0, 0, 0, 0, 0, 0, 0, 0, 0, 0, 0, 0], ([113, 204, 51, 115, 232, 45, 155, 36, 155, 134, 11, 93, 43, 105, 61, 93, 163, 17, 221, 217, 44, 202, 254, 63, 129, 214, 200, 191, 249, 149, 82, 226], (1600000000, (545259519, (1, ()))))))
def Run.id0 : List Int := [241, 135, 212, 169, 168, 254, 156, 207, 249, 187, 137, 185, 194, 139, 194, 134, 119, 138, 238, 31, 164, 82, 73, 164, 143, 38, 180, 66, 229, 50, 163, 21]
def Run.hdr1 : QeU := (0, ([241, 135, 212, 169, 168, 254, 156, 207, 249, 187, 137, 185, 194, 139, 194, 134, 119, 138, 238, 31, 164, 82, 73, 164, 143, 38, 180, 66, 229, 50, 163, 21], ([2, 7, 255, 12, 9, 94, 133, 151, 130, 56, 70, 158, 199, 52, 218, 242, 30, 231, 144, 106, 55, 79, 150, 159, 216, 218, 61, 74, 203, 134, 225, 17], (1, (0, (0, ()))))))
def Run.id1 : List Int := [19, 232, 24, 77, 171, 186, 248, 209, 31, 220, 93, 222, 76, 67, 132, 232, 222, 44, 63, 217, 145, 73, 115, 115, 133, 248, 183, 37, 104, 209, 22, 158]
def Run.hdr2 : QeU := (0, ([19, 232, 24, 77, 171, 186, 248, 209, 31, 220, 93, 222, 76, 67, 132, 232, 222, 44, 63, 217, 145, 73, 115, 115, 133, 248, 183, 37, 104, 209, 22, 158], ([167, 29, 123, 129, 156, 21, 181, 214, 142, 35, 51, 195, 147, 224, 76, 75, 240, 138, 76, 41, 164, 231, 23, 132, 19, 197, 27, 195, 45, 57, 54, 39], (2, (0, (0, ()))))))
def Run.id2 : List Int := [86, 199, 181, 248, 72, 11, 141, 200, 127, 157, 181, 85, 233, 100, 0, 250, 54, 201, 228, 204, 194, 201, 217, 152, 229, 85, 46, 67, 80, 186, 11, 191]
def Run.hdr3 : QeU := (0, ([86, 199, 181, 248, 72, 11, 141, 200, 127, 157, 181, 85, 233, 100, 0, 250, 54, 201, 228, 204, 194, 201, 217, 152, 229, 85, 46, 67, 80, 186, 11, 191], ([254, 164, 84, 239, 241, 111, 0, 44, 149, 178, 248, 39, 123, 119, 56, 44, 233, 90, 230, 188, 25, 0, 191, 65, 33, 121, 93, 128, 152, 69, 187, 97], (3, (0, (0, ()))))))
def Run.id3 : List Int := [159, 43, 199, 178, 206, 13, 97, 226, 10, 233, 164, 71, 175, 196, 229, 243, 112, 140, 126, 122, 69, 136, 25, 199, 34, 220, 65, 73, 211, 106, 25, 230]
def Run.hdr4 : QeU := (0, ([159, 43, 199, 178, 206, 13, 97, 226, 10, 233, 164, 71, 175, 196, 229, 243, 112, 140, 126, 122, 69, 136, 25, 199, 34, 220, 65, 73, 211, 106, 25, 230], ([132, 183, 215, 211, 78, 139, 90, 44, 160, 112, 86, 194, 249, 246, 162, 236, 104, 118, 102, 40, 219, 83, 237, 62, 149, 139, 156, 31, 10, 206, 164, 114], (4, (0, (0, ()))))))
def Run.id4 : List Int := [245, 27, 101, 36, 177, 156, 57, 180, 162, 251, 117, 229, 131, 96, 44, 126, 170, 50, 44, 232, 249, 156, 58, 190, 13, 197, 97, 66, 167, 216, 205, 230]
def Run.hdr5 : QeU := (0, ([245, 27, 101, 36, 177, 156, 57, 180, 162, 251, 117, 229, 131, 96, 44, 126, 170, 50, 44, 232, 249, 156, 58, 190, 13, 197, 97, 66, 167, 216, 205, 230], ([34, 218, 40, 27, 174, 221, 178, 99, 148, 216, 213, 165, 7, 5, 100, 112, 134, 58, 244, 29, 78, 115, 24, 105, 253, 227, 148, 177, 254, 24, 196, 138], (5, (0, (0, ()))))))
def Run.id5 : List Int := [9, 73, 23, 17, 8, 193, 99, 142, 4, 254, 221, 234, 252, 173, 240, 142, 187, 164, 248, 33, 115, 179, 179, 72, 3, 215, 71, 212, 21, 189, 29, 6]
def Run.tx1 : QeT := (1, ([(([0, 0, 0, 0, 0, 0, 0, 0, 0, 0, 0, 0, 0, 0, 0, 0, 0, 0, 0, 0, 0, 0, 0, 0, 0, 0, 0, 0, 0, 0, 0, 0], (4294967295, ())), (⟨List.toArray [1, 0, 0, 0]⟩, (4294967295, ())))], ([(1000, (⟨List.toArray []⟩, ())), (1000, (⟨List.toArray [215, 117, 128, 171]⟩, ())), (1000, (⟨List.toArray []⟩, ())), (1000, (⟨List.toArray [215, 117, 128, 171]⟩, ()))], (0, ()))))
def Run.root1 : List Int := [2, 7, 255, 12, 9, 94, 133, 151, 130, 56, 70, 158, 199, 52, 218, 242, 30, 231, 144, 106, 55, 79, 150, 159, 216, 218, 61, 74, 203, 134, 225, 17]
def Run.tx2 : QeT := (1, ([(([0, 0, 0, 0, 0, 0, 0, 0, 0, 0, 0, 0, 0, 0, 0, 0, 0, 0, 0, 0, 0, 0, 0, 0, 0, 0, 0, 0, 0, 0, 0, 0], (4294967295, ())), (⟨List.toArray [2, 0, 0, 0]⟩, (4294967295, ())))], ([(1000, (⟨List.toArray []⟩, ())), (1000, (⟨List.toArray [215, 117, 128, 171]⟩, ())), (1000, (⟨List.toArray []⟩, ())), (1000, (⟨List.toArray [215, 117, 128, 171]⟩, ()))], (0, ()))))
def Run.root2 : List Int := [167, 29, 123, 129, 156, 21, 181, 214, 142, 35, 51, 195, 147, 224, 76, 75, 240, 138, 76, 41, 164, 231, 23, 132, 19, 197, 27, 195, 45, 57, 54, 39]
def Run.tx3 : QeT := (1, ([(([0, 0, 0, 0, 0, 0, 0, 0, 0, 0, 0, 0, 0, 0, 0, 0, 0, 0, 0, 0, 0, 0, 0, 0, 0, 0, 0, 0, 0, 0, 0, 0], (4294967295, ())), (⟨List.toArray [3, 0, 0, 0]⟩, (4294967295, ())))], ([(1000, (⟨List.toArray []⟩, ())), (1000, (⟨List.toArray [215, 117, 128, 171]⟩, ())), (1000, (⟨List.toArray []⟩, ())), (1000, (⟨List.toArray [215, 117, 128, 171]⟩, ()))], (0, ()))))
def Run.root3 : List Int := [254, 164, 84, 239, 241, 111, 0, 44, 149, 178, 248, 39, 123, 119, 56, 44, 233, 90, 230, 188, 25, 0, 191, 65, 33, 121, 93, 128, 152, 69, 187, 97]
def Run.tx4 : QeT := (1, ([(([0, 0, 0, 0, 0, 0, 0, 0, 0, 0, 0, 0, 0, 0, 0, 0, 0, 0, 0, 0, 0, 0, 0, 0, 0, 0, 0, 0, 0, 0, 0, 0], (4294967295, ())), (⟨List.toArray [4, 0, 0, 0]⟩, (4294967295, ())))], ([(1000, (⟨List.toArray []⟩, ())), (1000, (⟨List.toArray [215, 117, 128, 171]⟩, ())), (1000, (⟨List.toArray []⟩, ())), (1000, (⟨List.toArray [215, 117, 128, 171]⟩, ()))], (0, ()))))
def Run.root4 : List Int := [132, 183, 215, 211, 78, 139, 90, 44, 160, 112, 86, 194, 249, 246, 162, 236, 104, 118, 102, 40, 219, 83, 237, 62, 149, 139, 156, 31, 10, 206, 164, 114]
def Run.tx5 : QeT := (1, ([(([0, 0, 0, 0, 0, 0, 0, 0, 0, 0, 0, 0, 0, 0, 0, 0, 0, 0, 0, 0, 0, 0, 0, 0, 0, 0, 0, 0, 0, 0, 0, 0], (4294967295, ())), (⟨List.toArray [5, 0, 0, 0]⟩, (4294967295, ())))], ([(1000, (⟨List.toArray []⟩, ())), (1000, (⟨List.toArray [215, 117, 128, 171]⟩, ())), (1000, (⟨List.toArray []⟩, ())), (1000, (⟨List.toArray [215, 117, 128, 171]⟩, ()))], (0, ()))))
def Run.root5 : List Int := [34, 218, 40, 27, 174, 221, 178, 99, 148, 216, 213, 165, 7, 5, 100, 112, 134, 58, 244, 29, 78, 115, 24, 105, 253, 227, 148, 177, 254, 24, 196, 138]
def Run.txp : QeT := (0, ([(([2, 7, 255, 12, 9, 94, 133, 151, 130, 56, 70, 158, 199, 52, 218, 242, 30, 231, 144, 106, 55, 79, 150, 159, 216, 218, 61, 74, 203, 134, 225, 17], (0, ())), (⟨List.toArray []⟩, (0, ())))], ([(900, (⟨List.toArray []⟩, ()))], (0, ()))))
def Run.tidp : List Int := [111, 27, 178, 66, 92, 217, 219, 141, 68, 225, 21, 34, 27, 76, 78, 59, 153, 137, 217, 209, 91, 10, 232, 154, 111, 197, 12, 128, 162, 255, 201, 147]
end Go.Am
namespace Go.Am
open Go Go.Proofs
set_option maxRecDepth 100000
def Run.j32_0 : dens QM.tin → Option (dens QM.tout) := fun _ => QM 140737488355328
theorem Run.q32_0 : Qb Tryz.prog 32 (Qn QM.tin QM.tout Run.j32_0) := QM.sem_ok 140737488355328
theorem Run.e32_0 : Run.j32_0 () = some Run.gen0 := by kernel_rfl
def Run.j32_1 : dens QM.tin → Option (dens QM.tout) := Q1Q QM.tin QM.tout () Run.gen0 Run.j32_0
theorem Run.q32_1 : Qb Tryz.prog 32 (Qn QM.tin QM.tout Run.j32_1) := by
 unfold Run.j32_1
 exact Q1s (tin := QM.tin) (tout := QM.tout) (J := Run.j32_0) (x0 := ()) (y0 := Run.gen0) Run.e32_0 Run.q32_0
def Run.s32 : Qj := Qn QM.tin QM.tout Run.j32_1
theorem Run.m32 : Qb Tryz.prog 32 Run.s32 := Run.q32_1
def Run.j31_0 : dens QI.tin → Option (dens QI.tout) := fun x => QI 140737488355328 x.1
theorem Run.q31_0 : Qb Tryz.prog 31 (Qn QI.tin QI.tout Run.j31_0) := QI.sem_ok 140737488355328
theorem Run.e31_0 : Run.j31_0 (Run.hdr0, ()) = some (Run.id0, ()) := by kernel_rfl
def Run.j31_1 : dens QI.tin → Option (dens QI.tout) := Q1Q QI.tin QI.tout (Run.hdr0, ()) (Run.id0, ()) Run.j31_0
theorem Run.q31_1 : Qb Tryz.prog 31 (Qn QI.tin QI.tout Run.j31_1) := by
 unfold Run.j31_1
 exact Q1s (tin := QI.tin) (tout := QI.tout) (J := Run.j31_0) (x0 := (Run.hdr0, ())) (y0 := (Run.id0, ())) Run.e31_0 Run.q31_0
theorem Run.e31_1 : Run.j31_1 (Run.hdr1, ()) = some (Run.id1, ()) := by kernel_rfl
def Run.j31_2 : dens QI.tin → Option (dens QI.tout) := Q1Q QI.tin QI.tout (Run.hdr1, ()) (Run.id1, ()) Run.j31_1
theorem Run.q31_2 : Qb Tryz.prog 31 (Qn QI.tin QI.tout Run.j31_2) := by
 unfold Run.j31_2
 exact Q1s (tin := QI.tin) (tout := QI.tout) (J := Run.j31_1) (x0 := (Run.hdr1, ())) (y0 := (Run.id1, ())) Run.e31_1 Run.q31_1
theorem Run.e31_2 : Run.j31_2 (Run.hdr2, ()) = some (Run.id2, ()) := by kernel_rfl
def Run.j31_3 : dens QI.tin → Option (dens QI.tout) := Q1Q QI.tin QI.tout (Run.hdr2, ()) (Run.id2, ()) Run.j31_2
theorem Run.q31_3 : Qb Tryz.prog 31 (Qn QI.tin QI.tout Run.j31_3) := by
 unfold Run.j31_3
 exact Q1s (tin := QI.tin) (tout := QI.tout) (J := Run.j31_2) (x0 := (Run.hdr2, ())) (y0 := (Run.id2, ())) Run.e31_2 Run.q31_2
theorem Run.e31_3 : Run.j31_3 (Run.hdr3, ()) = some (Run.id3, ()) := by kernel_rfl
def Run.j31_4 : dens QI.tin → Option (dens QI.tout) := Q1Q QI.tin QI.tout (Run.hdr3, ()) (Run.id3, ()) Run.j31_3
theorem Run.q31_4 : Qb Tryz.prog 31 (Qn QI.tin QI.tout Run.j31_4) := by
 unfold Run.j31_4
 exact Q1s (tin := QI.tin) (tout := QI.tout) (J := Run.j31_3) (x0 := (Run.hdr3, ())) (y0 := (Run.id3, ())) Run.e31_3 Run.q31_3
theorem Run.e31_4 : Run.j31_4 (Run.hdr4, ()) = some (Run.id4, ()) := by kernel_rfl
def Run.j31_5 : dens QI.tin → Option (dens QI.tout) := Q1Q QI.tin QI.tout (Run.hdr4, ()) (Run.id4, ()) Run.j31_4
theorem Run.q31_5 : Qb Tryz.prog 31 (Qn QI.tin QI.tout Run.j31_5) := by
 unfold Run.j31_5
 exact Q1s (tin := QI.tin) (tout := QI.tout) (J := Run.j31_4) (x0 := (Run.hdr4, ())) (y0 := (Run.id4, ())) Run.e31_4 Run.q31_4
theorem Run.e31_5 : Run.j31_5 (Run.hdr5, ()) = some (Run.id5, ()) := by kernel_rfl
def Run.j31_6 : dens QI.tin → Option (dens QI.tout) := Q1Q QI.tin QI.tout (Run.hdr5, ()) (Run.id5, ()) Run.j31_5
theorem Run.q31_6 : Qb Tryz.prog 31 (Qn QI.tin QI.tout Run.j31_6) := by
 unfold Run.j31_6
 exact Q1s (tin := QI.tin) (tout := QI.tout) (J := Run.j31_5) (x0 := (Run.hdr5, ())) (y0 := (Run.id5, ())) Run.e31_5 Run.q31_5
def Run.s31 : Qj := Qn QI.tin QI.tout Run.j31_6
theorem Run.m31 : Qb Tryz.prog 31 Run.s31 := Run.q31_6
end Go.Am
namespace Go.Am
open Go Go.Proofs
set_option maxRecDepth 100000
def Run.j72_0 : dens Qe.tin → Option (dens Qe.tout) := fun x => Qe 140737488355328 x.1
theorem Run.q72_0 : Qb Tryz.prog 72 (Qn Qe.tin Qe.tout Run.j72_0) := Qe.sem_ok 140737488355328
theorem Run.e72_0 : Run.j72_0 ([Run.tx1], ()) = some (Run.root1, false, ()) := by kernel_rfl
def Run.j72_1 : dens Qe.tin → Option (dens Qe.tout) := Q1Q Qe.tin Qe.tout ([Run.tx1], ()) (Run.root1, false, ()) Run.j72_0
theorem Run.q72_1 : Qb Tryz.prog 72 (Qn Qe.tin Qe.tout Run.j72_1) := by
 unfold Run.j72_1
 exact Q1s (tin := Qe.tin) (tout := Qe.tout) (J := Run.j72_0) (x0 := ([Run.tx1], ())) (y0 := (Run.root1, false, ())) Run.e72_0 Run.q72_0
theorem Run.e72_1 : Run.j72_1 ([Run.tx2], ()) = some (Run.root2, false, ()) := by kernel_rfl
def Run.j72_2 : dens Qe.tin → Option (dens Qe.tout) := Q1Q Qe.tin Qe.tout ([Run.tx2], ()) (Run.root2, false, ()) Run.j72_1
theorem Run.q72_2 : Qb Tryz.prog 72 (Qn Qe.tin Qe.tout Run.j72_2) := by
 unfold Run.j72_2
 exact Q1s (tin := Qe.tin) (tout := Qe.tout) (J := Run.j72_1) (x0 := ([Run.tx2], ())) (y0 := (Run.root2, false, ())) Run.e72_1 Run.q72_1
theorem Run.e72_2 : Run.j72_2 ([Run.tx3], ()) = some (Run.root3, false, ()) := by kernel_rfl
def Run.j72_3 : dens Qe.tin → Option (dens Qe.tout) := Q1Q Qe.tin Qe.tout ([Run.tx3], ()) (Run.root3, false, ()) Run.j72_2
theorem Run.q72_3 : Qb Tryz.prog 72 (Qn Qe.tin Qe.tout Run.j72_3) := by
 unfold Run.j72_3
 exact Q1s (tin := Qe.tin) (tout := Qe.tout) (J := Run.j72_2) (x0 := ([Run.tx3], ())) (y0 := (Run.root3, false, ())) Run.e72_2 Run.q72_2
theorem Run.e72_3 : Run.j72_3 ([Run.tx4], ()) = some (Run.root4, false, ()) := by kernel_rfl
def Run.j72_4 : dens Qe.tin → Option (dens Qe.tout) := Q1Q Qe.tin Qe.tout ([Run.tx4], ()) (Run.root4, false, ()) Run.j72_3
theorem Run.q72_4 : Qb Tryz.prog 72 (Qn Qe.tin Qe.tout Run.j72_4) := by
 unfold Run.j72_4
 exact Q1s (tin := Qe.tin) (tout := Qe.tout) (J := Run.j72_3) (x0 := ([Run.tx4], ())) (y0 := (Run.root4, false, ())) Run.e72_3 Run.q72_3
theorem Run.e72_4 : Run.j72_4 ([Run.tx5], ()) = some (Run.root5, false, ()) := by kernel_rfl
def Run.j72_5 : dens Qe.tin → Option (dens Qe.tout) := Q1Q Qe.tin Qe.tout ([Run.tx5], ()) (Run.root5, false, ()) Run.j72_4
theorem Run.q72_5 : Qb Tryz.prog 72 (Qn Qe.tin Qe.tout Run.j72_5) := by
 unfold Run.j72_5
 exact Q1s (tin := Qe.tin) (tout := Qe.tout) (J := Run.j72_4) (x0 := ([Run.tx5], ())) (y0 := (Run.root5, false, ())) Run.e72_4 Run.q72_4
def Run.s72 : Qj := Qn Qe.tin Qe.tout Run.j72_5
theorem Run.m72 : Qb Tryz.prog 72 Run.s72 := Run.q72_5
end Go.Am
namespace Go.Am
open Go Go.Proofs
set_option maxRecDepth 100000
def Run.j35_0 : dens Q0L.tin → Option (dens Q0L.tout) := fun x => Q0L 140737488355328 x.1
theorem Run.q35_0 : Qb Tryz.prog 35 (Qn Q0L.tin Q0L.tout Run.j35_0) := Q0L.sem_ok 140737488355328
theorem Run.e35_0 : Run.j35_0 (Run.tx1, ()) = some (Run.root1, 0, ()) := by kernel_rfl
def Run.j35_1 : dens Q0L.tin → Option (dens Q0L.tout) := Q1Q Q0L.tin Q0L.tout (Run.tx1, ()) (Run.root1, 0, ()) Run.j35_0
theorem Run.q35_1 : Qb Tryz.prog 35 (Qn Q0L.tin Q0L.tout Run.j35_1) := by
 unfold Run.j35_1
 exact Q1s (tin := Q0L.tin) (tout := Q0L.tout) (J := Run.j35_0) (x0 := (Run.tx1, ())) (y0 := (Run.root1, 0, ())) Run.e35_0 Run.q35_0
theorem Run.e35_1 : Run.j35_1 (Run.tx2, ()) = some (Run.root2, 0, ()) := by kernel_rfl
def Run.j35_2 : dens Q0L.tin → Option (dens Q0L.tout) := Q1Q Q0L.tin Q0L.tout (Run.tx2, ()) (Run.root2, 0, ()) Run.j35_1
theorem Run.q35_2 : Qb Tryz.prog 35 (Qn Q0L.tin Q0L.tout Run.j35_2) := by
 unfold Run.j35_2
 exact Q1s (tin := Q0L.tin) (tout := Q0L.tout) (J := Run.j35_1) (x0 := (Run.tx2, ())) (y0 := (Run.root2, 0, ())) Run.e35_1 Run.q35_1
theorem Run.e35_2 : Run.j35_2 (Run.tx3, ()) = some (Run.root3, 0, ()) := by kernel_rfl
def Run.j35_3 : dens Q0L.tin → Option (dens Q0L.tout) := Q1Q Q0L.tin Q0L.tout (Run.tx3, ()) (Run.root3, 0, ()) Run.j35_2
theorem Run.q35_3 : Qb Tryz.prog 35 (Qn Q0L.tin Q0L.tout Run.j35_3) := by
 unfold Run.j35_3
 exact Q1s (tin := Q0L.tin) (tout := Q0L.tout) (J := Run.j35_2) (x0 := (Run.tx3, ())) (y0 := (Run.root3, 0, ())) Run.e35_2 Run.q35_2
theorem Run.e35_3 : Run.j35_3 (Run.tx4, ()) = some (Run.root4, 0, ()) := by kernel_rfl
def Run.j35_4 : dens Q0L.tin → Option (dens Q0L.tout) := Q1Q Q0L.tin Q0L.tout (Run.tx4, ()) (Run.root4, 0, ()) Run.j35_3
theorem Run.q35_4 : Qb Tryz.prog 35 (Qn Q0L.tin Q0L.tout Run.j35_4) := by
 unfold Run.j35_4
 exact Q1s (tin := Q0L.tin) (tout := Q0L.tout) (J := Run.j35_3) (x0 := (Run.tx4, ())) (y0 := (Run.root4, 0, ())) Run.e35_3 Run.q35_3
theorem Run.e35_4 : Run.j35_4 (Run.tx5, ()) = some (Run.root5, 0, ()) := by kernel_rfl
def Run.j35_5 : dens Q0L.tin → Option (dens Q0L.tout) := Q1Q Q0L.tin Q0L.tout (Run.tx5, ()) (Run.root5, 0, ()) Run.j35_4
theorem Run.q35_5 : Qb Tryz.prog 35 (Qn Q0L.tin Q0L.tout Run.j35_5) := by
 unfold Run.j35_5
 exact Q1s (tin := Q0L.tin) (tout := Q0L.tout) (J := Run.j35_4) (x0 := (Run.tx5, ())) (y0 := (Run.root5, 0, ())) Run.e35_4 Run.q35_4
theorem Run.e35_5 : Run.j35_5 (Run.txp, ()) = some (Run.tidp, 0, ()) := by kernel_rfl
def Run.j35_6 : dens Q0L.tin → Option (dens Q0L.tout) := Q1Q Q0L.tin Q0L.tout (Run.txp, ()) (Run.tidp, 0, ()) Run.j35_5
theorem Run.q35_6 : Qb Tryz.prog 35 (Qn Q0L.tin Q0L.tout Run.j35_6) := by
 unfold Run.j35_6
 exact Q1s (tin := Q0L.tin) (tout := Q0L.tout) (J := Run.j35_5) (x0 := (Run.txp, ())) (y0 := (Run.tidp, 0, ())) Run.e35_5 Run.q35_5
def Run.s35 : Qj := Qn Q0L.tin Q0L.tout Run.j35_6
theorem Run.m35 : Qb Tryz.prog 35 Run.s35 := Run.q35_6
end Go.Am
namespace Go.Am
open Go Go.Proofs
set_option maxRecDepth 100000
def Run.j137_0 : dens Qo.tin → Option (dens Qo.tout) := fun x => Qo 140737488355328 x.1
theorem Run.q137_0 : Qb Tryz.prog 137 (Qn Qo.tin Qo.tout Run.j137_0) := Qo.sem_ok 140737488355328
theorem Run.e137_0 : Run.j137_0 ((Run.hdr1, [Run.tx1], ()), ()) = some (0, ()) := by kernel_rfl
def Run.j137_1 : dens Qo.tin → Option (dens Qo.tout) := Q1Q Qo.tin Qo.tout ((Run.hdr1, [Run.tx1], ()), ()) (0, ()) Run.j137_0
theorem Run.q137_1 : Qb Tryz.prog 137 (Qn Qo.tin Qo.tout Run.j137_1) := by
 unfold Run.j137_1
 exact Q1s (tin := Qo.tin) (tout := Qo.tout) (J := Run.j137_0) (x0 := ((Run.hdr1, [Run.tx1], ()), ())) (y0 := (0, ())) Run.e137_0 Run.q137_0
theorem Run.e137_1 : Run.j137_1 ((Run.hdr2, [Run.tx2], ()), ()) = some (0, ()) := by kernel_rfl
def Run.j137_2 : dens Qo.tin → Option (dens Qo.tout) := Q1Q Qo.tin Qo.tout ((Run.hdr2, [Run.tx2], ()), ()) (0, ()) Run.j137_1
theorem Run.q137_2 : Qb Tryz.prog 137 (Qn Qo.tin Qo.tout Run.j137_2) := by
 unfold Run.j137_2
 exact Q1s (tin := Qo.tin) (tout := Qo.tout) (J := Run.j137_1) (x0 := ((Run.hdr2, [Run.tx2], ()), ())) (y0 := (0, ())) Run.e137_1 Run.q137_1
theorem Run.e137_2 : Run.j137_2 ((Run.hdr3, [Run.tx3], ()), ()) = some (0, ()) := by kernel_rfl
def Run.j137_3 : dens Qo.tin → Option (dens Qo.tout) := Q1Q Qo.tin Qo.tout ((Run.hdr3, [Run.tx3], ()), ()) (0, ()) Run.j137_2
theorem Run.q137_3 : Qb Tryz.prog 137 (Qn Qo.tin Qo.tout Run.j137_3) := by
 unfold Run.j137_3
 exact Q1s (tin := Qo.tin) (tout := Qo.tout) (J := Run.j137_2) (x0 := ((Run.hdr3, [Run.tx3], ()), ())) (y0 := (0, ())) Run.e137_2 Run.q137_2
theorem Run.e137_3 : Run.j137_3 ((Run.hdr4, [Run.tx4], ()), ()) = some (0, ()) := by kernel_rfl
def Run.j137_4 : dens Qo.tin → Option (dens Qo.tout) := Q1Q Qo.tin Qo.tout ((Run.hdr4, [Run.tx4], ()), ()) (0, ()) Run.j137_3
theorem Run.q137_4 : Qb Tryz.prog 137 (Qn Qo.tin Qo.tout Run.j137_4) := by
 unfold Run.j137_4
 exact Q1s (tin := Qo.tin) (tout := Qo.tout) (J := Run.j137_3) (x0 := ((Run.hdr4, [Run.tx4], ()), ())) (y0 := (0, ())) Run.e137_3 Run.q137_3
theorem Run.e137_4 : Run.j137_4 ((Run.hdr5, [Run.tx5], ()), ()) = some (0, ()) := by kernel_rfl
def Run.j137_5 : dens Qo.tin → Option (dens Qo.tout) := Q1Q Qo.tin Qo.tout ((Run.hdr5, [Run.tx5], ()), ()) (0, ()) Run.j137_4
theorem Run.q137_5 : Qb Tryz.prog 137 (Qn Qo.tin Qo.tout Run.j137_5) := by
 unfold Run.j137_5
 exact Q1s (tin := Qo.tin) (tout := Qo.tout) (J := Run.j137_4) (x0 := ((Run.hdr5, [Run.tx5], ()), ())) (y0 := (0, ())) Run.e137_4 Run.q137_4
def Run.s137 : Qj := Qn Qo.tin Qo.tout Run.j137_5
theorem Run.m137 : Qb Tryz.prog 137 Run.s137 := Run.q137_5
end Go.Am
namespace Go.Am
open Go Go.Proofs Go.Shelf
set_option maxRecDepth 100000
def Mc.fs : List (Nat × Nat) := [(5, 113), (7, 90)]
def Mc.ts : List (Nat × Nat) := [(4, 4), (20, 20), (23, 95), (25, 28), (3, 4)]
def Mc.ren : Ren := ⟨Bld.look Mc.fs, Bld.look Mc.ts, fun n => n⟩
theorem Mc.lays : SlLaysW.n5 Tryz.prog Mc.ren where
 mixed := by kernel_rfl
 f5 := ⟨"maps.Clone[bedrock/pool.set[bedrock/api.Hash],bedrock/api.Hash,bool]", by decide, by kernel_rfl⟩
 f7 := by kernel_rfl
 t4 := by kernel_rfl
 a4 := fun w => by kernel_rfl
 z4 := fun w => by kernel_rfl
 v4 := fun w => by kernel_rfl
 t20 := by kernel_rfl
 a20 := fun w => by kernel_rfl
 z20 := fun w => by kernel_rfl
 v20 := fun w => by kernel_rfl
 t23 := by kernel_rfl
 a23 := fun w => by kernel_rfl
 z23 := fun w => by kernel_rfl
 v23 := fun w => by kernel_rfl
end Go.Am
namespace Go.Am
open Go Go.Proofs
abbrev cKT : Ty := .pair QeW QeV 
abbrev cVT : Ty := .pair (.pair (.int .u64) (.pair .str .unit)) (.pair (.int .i64) (.pair .bool .unit))
theorem mc.ty : Q5r Tryz.prog 71 = some (cKT, cVT) := by kernel_rfl
noncomputable abbrev mcl (p : List Nat) : Code := Q0e (Func.code Tryz.f106) p
noncomputable abbrev mcO (p : List Nat) : Array Oper := match mcl p with | .region _ ops _ => ops | _ => #[]
def slM (l : List (Nat × AVal)) : List AVal := l.foldl (fun s p => s.set p.1 p.2) (List.replicate 16 .undef)
def mcS (ex : List (Nat × AVal)) (H : Heap) : St := ⟨slM ([(0, .mp 0), (1, .mp 1)] ++ ex), H⟩
noncomputable def mc.ctx : Ctx := ⟨Tryz.prog, gam []⟩
theorem mc.gok : ∀ f, Qb Tryz.prog f (mc.ctx.Γ f) := QE
abbrev mcP (k : cKT.den) : AVal := .pair (.arr 32 (.int .u8) k.1) (.pair (.int .u32 k.2.1) .unit)
abbrev mcC (v : cVT.den) : AVal := .pair (.pair (.int .u64 v.1.1) (.pair (.str v.1.2.1) .unit)) (.pair (.int .i64 v.2.1) (.pair (.bool v.2.2.1) .unit))
abbrev keepM (keep : List Nat) : St → List Eff → Option St := fun st _ => some ⟨Q3j keep 0 st.sl, st.H⟩
theorem mc.code : Func.code Tryz.f106 = .seq (.region 0 (mcO [0]) false) (.block 0 (.loop (.seq (.region 1 (mcO [1,0,0,0]) false) (.seq (.cond (.tmp 9) .skip (.exit 0)) (.block 1 (.seq (.region 2 (mcO [1,0,0,1,1,0,0]) false) (.region 3 (mcO [1,0,0,1,1,0,1]) false))))))) := by kernel_rfl
theorem mc.e0 (H : Heap) : Q1W mc.ctx (mcO [0]) ((mcO [0]).toList.take 1) (mcS [] H) [] (keepM [0, 1, 6]) = some (mcS [(6, .mp 1)] H) := by kernel_rfl
theorem mc.e1t (H : Heap) (k : cKT.den) (v : cVT.den) : Q1W mc.ctx (mcO [1,0,0,0]) ((mcO [1,0,0,0]).toList.drop 1) (mcS [(7, .ptr 2 []), (8, .tup (.pair (.bool true) (.pair (toA cKT k) (.pair (toA cVT v) .unit))))] H) [] (keepM [0, 1, 7, 9]) = some (mcS [(7, .ptr 2 []), (9, .bool true)] H) := by kernel_rfl
theorem mc.e1f (H : Heap) : Q1W mc.ctx (mcO [1,0,0,0]) ((mcO [1,0,0,0]).toList.drop 1) (mcS [(7, .ptr 2 []), (8, .tup (.pair (.bool false) .unit))] H) [] (keepM [0, 1, 7, 9]) = some (mcS [(7, .ptr 2 []), (9, .bool false)] H) := by kernel_rfl
theorem mc.e2 (h0 h1 h2 : Option AVal) (k : cKT.den) (v : cVT.den) : Q1W mc.ctx (mcO [1,0,0,1,1,0,0]) ((mcO [1,0,0,1,1,0,0]).toList.drop 1) (mcS [(7, .ptr 2 []), (10, .tup (.pair (toA cKT k) (.pair (toA cVT v) .unit)))] [h0, h1, h2]) [] (keepM [0, 1, 4, 5, 7]) =
  some (mcS [(4, .ptr 3 []), (5, .ptr 4 []), (7, .ptr 2 [])] [h0, h1, h2, some (mcP k), some (mcC v)]) := by kernel_rfl
theorem mc.e3 (D : List (cKT.den × cVT.den)) (h1 h2 : Option AVal) (k : cKT.den) (v : cVT.den) : evC mc.ctx (mcl [1,0,0,1,1,0,1]) .nil (mcS [(4, .ptr 3 []), (5, .ptr 4 []), (7, .ptr 2 [])] [some (.mpc cKT cVT D), h1, h2, some (mcP k), some (mcC v)]) (fun e st => some (e, (⟨Q3j [0, 1, 7] 0 st.sl, st.H⟩ : St))) =
  some (.normal, mcS [(7, .ptr 2 [])] [some (.mpc cKT cVT (mset cKT k v D)), h1, h2, some (mcP k), some (mcC v)]) := by kernel_rfl
theorem mc.s0 : (mcO [0]).size = 2 := by kernel_rfl
theorem mc.s1 : (mcO [1,0,0,0]).size = 2 := by kernel_rfl
theorem mc.s2 : (mcO [1,0,0,1,1,0,0]).size = 7 := by kernel_rfl
theorem mc.o0 : OpAt (mcO [0]) 1 (.range 71 (.tmp 6)) (some 7) := by unfold OpAt; kernel_rfl
theorem mc.o1 : OpAt (mcO [1,0,0,0]) 0 (.next (.tmp 7) false) (some 8) := by unfold OpAt; kernel_rfl
theorem mc.o2 : OpAt (mcO [1,0,0,1,1,0,0]) 0 (.entry (.tmp 7)) (some 10) := by unfold OpAt; kernel_rfl
end Go.Am
namespace Go.Am
open Go Go.Proofs
theorem QbM {es : List MapEntry} {e : MapEntry} (he : e ∈ es) (hn : (es.map fun e => e.born).Nodup) : es.find? (fun x => x.born == e.born) = some e := by
 induction es with
 | nil => simp at he
 | cons x l ih =>
  rw [List.map_cons, List.nodup_cons] at hn
  rw [List.find?_cons]
  rcases List.mem_cons.1 he with rfl | h
  ·simp
  ·have : (x.born == e.born) = false := by
    rw [beq_eq_false_iff_ne]
    intro hb
    exact hn.1 (List.mem_map.2 ⟨e, h, hb.symm⟩)
   rw [this]
   exact ih h hn.2
theorem Qby {P : Program} {w : World} {b bm since clock : Nat} {seen : Array Nat} {es : Array MapEntry} {e : MapEntry} (h1 : w.heap[b]? = some (.mapIter (some bm) since (seen.push e.born) clock)) (h2 : w.heap[bm]? = some (.map es clock)) (he : e ∈ es.toList)
  (hn : (es.toList.map fun e => e.born).Nodup) : (Instr.entry (.pointer (some ⟨b, 0, none⟩))).run P w = .ok (.tuple #[e.key, e.val]) w := by
 have hf : es.find? (fun x => x.born == e.born) = some e := by rw [← Array.find?_toList]; exact QbM he hn
 simp only [Instr.entry, Sem.run_bind, Q35 h1, Result.andThen]
 simp [Q1f h2, Result.andThen, hf]
def Q1m {α : Type} (L : List (α × MapEntry)) (seen : Array Nat) : List α := (L.filter fun p => !seen.contains p.2.born).map fun p => p.1
theorem Q8y {α : Type} {seen : Array Nat} {p : α × MapEntry} : ∀ {L : List (α × MapEntry)}, (L.map fun p => p.2.born).Nodup → p ∈ L → seen.contains p.2.born = false → (Q1m L seen).Perm (p.1 :: Q1m L (seen.push p.2.born))
 | [], _, hp, _ => by simp at hp
 | x :: L, hn, hp, hs => by
  rw [List.map_cons, List.nodup_cons] at hn
  have cont : ∀ y : Nat, (seen.push p.2.born).contains y = (seen.contains y || y == p.2.born) := fun y => by rw [Bool.eq_iff_iff]; simp
  rcases List.mem_cons.1 hp with rfl | h
  ·have same : Q1m L (seen.push p.2.born) = Q1m L seen := by
    unfold Q1m
    congr 1
    apply List.filter_congr
    intro y hy
    have : y.2.born ≠ p.2.born := fun e => hn.1 (List.mem_map.2 ⟨y, hy, e⟩)
    rw [cont, beq_eq_false_iff_ne.2 this, Bool.or_false]
   have e1 : Q1m (p :: L) seen = p.1 :: Q1m L seen := by
    unfold Q1m; rw [List.filter_cons, hs]; rfl
   have e2 : Q1m (p :: L) (seen.push p.2.born) = Q1m L (seen.push p.2.born) := by
    unfold Q1m; rw [List.filter_cons, cont]; simp
   rw [e1, e2, same]
  ·have hne : x.2.born ≠ p.2.born := fun e => hn.1 (List.mem_map.2 ⟨p, h, e.symm⟩)
   have ih := Q8y hn.2 h hs
   cases hx : seen.contains x.2.born with
   | true =>
    have e1 : Q1m (x :: L) seen = Q1m L seen := by unfold Q1m; rw [List.filter_cons, hx]; rfl
    have e2 : Q1m (x :: L) (seen.push p.2.born) = Q1m L (seen.push p.2.born) := by unfold Q1m; rw [List.filter_cons, cont, hx]; rfl
    rw [e1, e2]; exact ih
   | false =>
    have e1 : Q1m (x :: L) seen = x.1 :: Q1m L seen := by unfold Q1m; rw [List.filter_cons, hx]; rfl
    have e2 : Q1m (x :: L) (seen.push p.2.born) = x.1 :: Q1m L (seen.push p.2.born) := by unfold Q1m; rw [List.filter_cons, cont, hx, beq_eq_false_iff_ne.2 hne]; rfl
    rw [e1, e2]
    exact (ih.cons _).trans (.swap _ _ _)
theorem QaC {np : Nat} {m0 m : Mem} {μ0 μ : LMap} {H0 H : Heap} {w0 w : World} (p : Q11 np m0 μ0 H0 w0 m μ H w) (n : Nat) : Q11 np m0 μ0 H0 w0 m μ H { w with drawn := n } := p.trans (p.rh.drawn n).toW
theorem RS.keepM {m : Mem} {μ : LMap} {sl sl' : List AVal} {a : Act} (rs : RS m μ sl a) (keep : List Nat) (h : Q3j keep 0 sl = sl') : RS m μ sl' a := by
 subst h
 refine ⟨by rw [Q33]; exact rs.size, rs.defers, fun i x hx => ?_⟩
 rcases Q57 hx with h | ⟨rfl, h⟩
 ·exact rs.rel i x h
 ·obtain ⟨v, hv⟩ := rs.vals h
  exact ⟨v, hv, Q3X v⟩
set_option maxHeartbeats 2000000 in
theorem mc.goes (D0 S : List (cKT.den × cVT.den)) : Goes 2 Tryz.prog (Func.code Tryz.f106) (mcS [] [some (.mpc cKT cVT D0), some (.mpc cKT cVT S)]) .normal (mcS [] [some (.mpc cKT cVT (Q2b cKT D0 S)), some (.mpc cKT cVT S)]) := by
 intro m0 μ0 w0 a Q rh rs hQ
 rw [mc.code]
 have hkb : keyB cKT = true := rfl
 have hv1 : VRel m0 μ0 (.mp 1) (a.eval (.tmp 1)) := Q04 rs (.tmp 1)
 obtain ⟨lm, es, clock, hlm, hmp, _, hmap, ys, hperm, hnd, hmr, hborn, hbnd⟩ := Q4d rh (id := 1) (kt := cKT) (vt := cVT) (xs := S) rfl hv1
 have hv0 : VRel m0 μ0 (.mp 0) (a.eval (.tmp 0)) := Q04 rs (.tmp 0)
 obtain ⟨_, _, _, _, _, _, _, zs0, hp0, hn0, _⟩ := Q4d rh (id := 0) (kt := cKT) (vt := cVT) (xs := D0) rfl hv0
 have hnD : (D0.map fun x => x.1).Nodup := (hp0.map _).nodup_iff.1 hn0
 have pk := (rh.kill 1).toW (np := 2)
 have nown : ¬ Q1q μ0 ([some (.mpc cKT cVT D0), none] : Heap) lm.b := by
  rintro ⟨j, x, lj, hj, hlj, q, he⟩
  have hj' : (([some (.mpc cKT cVT D0), some (.mpc cKT cVT S)] : Heap).set 1 none)[j]? = some (some x) := hj
  have := Q1X hj'
  exact this.1 (Q61 rh this.2 (i := j) (j := 1) (b := .mpc cKT cVT S) rfl hlj hlm q (.inr hmp) he)
 have hlt := Q0Q hmap
 refine wp_seq (wp_region ?_)
 rw [List.range_eq_range', mc.s0]
 refine Q7a mc.gok (os := (mcO [0]).toList.take 1) (st := mcS [] [some (.mpc cKT cVT D0), none]) 0 _ (fun j o hj => ?_) (mc.e0 _) [1] pk.rh rs fun a1 w1 m1 μ1 rs1 p1 => ?_
 ·rw [Nat.zero_add, ← Array.getElem?_toList]
  rw [List.getElem?_take] at hj
  split at hj
  ·exact hj
  ·cases hj
 have P1 : Q11 2 m0 μ0 [some (.mpc cKT cVT D0), none] w0 m1 μ1 [some (.mpc cKT cVT D0), none] w1 := p1.toW
 have hmap1 : w1.heap[lm.b]? = some (.map es clock) := (P1.keep _ hlt nown).trans hmap
 have hv6 : a1.eval (.tmp 6) = .map (some lm.b) := by
  have h6 : VRel m1 μ1 (.mp 1) (a1.eval (.tmp 6)) := Q04 rs1 (.tmp 6)
  obtain ⟨l, e1, _, e2⟩ := h6.one rfl rfl
  have := P1.fix 1 lm (by omega) hlm
  rw [this] at e1
  cases e1
  exact (List.cons.inj e2).1
 obtain ⟨o0, h1, h2, h3, h4⟩ := mc.o0.get
 rw [wpOps_cons]
 refine Q26 (w' := w1.alloc (.mapIter (some lm.b) clock #[] clock)) (v := .pointer (some ⟨w1.heap.size, 0, none⟩)) h1 h3 ?_ ?_
 ·obtain ⟨K, V, hu, _⟩ := Q2o mc.ty
  show (execOp a1.eval o0).run Tryz.prog w1 = _
  unfold execOp
  rw [h2]
  simp only [hv6, Sem.run_bind, run_range_map w1 71 K V lm.b es clock hu hmap1, Result.andThen]
  rfl
 rw [h4]
 have hit := p1.rh.itNew (.mapIter (some lm.b) clock #[] clock)
 have P2 := P1.trans (hit.toW (np := 2))
 simp only [wpOps, Exit.then]
 generalize hb0 : w1.heap.size = b0 at hit P2
 have hb0w : w0.heap.size ≤ b0 := by rw [← hb0]; exact P1.size
 have hsrc : ∀ {m : Mem} {μ : LMap} {H : Heap} {w : World}, Q11 2 m0 μ0 [some (.mpc cKT cVT D0), none] w0 m μ H w → w.heap[lm.b]? = some (.map es clock) := fun P => (P.keep _ hlt nown).trans hmap
 have hiw : (w1.alloc (.mapIter (some lm.b) clock #[] clock)).heap[b0]? = some (.mapIter (some lm.b) clock #[] clock) := by
  rw [← hb0]; exact heap_alloc_new _ _
 generalize hL : List.zip ys es.toList = L
 have hlen : ys.length = es.toList.length := hmr.1.symm
 have hL1 : (L.map fun p => p.1) = ys := by rw [← hL]; exact List.map_fst_zip (Nat.le_of_eq hlen)
 have hL2 : (L.map fun p => p.2) = es.toList := by rw [← hL]; exact List.map_snd_zip (Nat.le_of_eq hlen.symm)
 have hLn : (L.map fun p => p.2.born).Nodup := by
  have : (L.map fun p => p.2.born) = (L.map fun p => p.2).map fun e => e.born := by rw [List.map_map]; rfl
  rw [this, hL2]; exact hbnd
 have hLdv : ∀ p ∈ L, DV m0 cKT p.1.1 p.2.key ∧ DV m0 cVT p.1.2 p.2.val := by
  intro p hp
  rw [← hL] at hp
  obtain ⟨i, hi, he⟩ := List.mem_iff_getElem.1 hp
  rw [List.getElem_zip] at he
  rw [← he]
  simp only [List.length_zip] at hi
  exact hmr.2 i ys[i] es.toList[i] (List.getElem?_eq_getElem (by omega)) (List.getElem?_eq_getElem (by omega))
 have hmem : ∀ e ∈ es.toList, ∃ y, (y, e) ∈ L := by
  intro e he
  rw [← hL2] at he
  obtain ⟨p, hp, rfl⟩ := List.mem_map.1 he
  exact ⟨p.1, hp⟩
 have hg : ∀ seen : Array Nat, (!seen.isEmpty && !es.isEmpty && es.all fun e => decide (e.born ≥ clock)) = false := by
  intro seen
  cases hes : es.toList with
  | nil =>
   have : es = #[] := by apply Array.toList_inj.1; rw [hes]
   subst this; simp
  | cons e l =>
   have he := hborn e (by rw [hes]; simp)
   have : (es.all fun e => decide (e.born ≥ clock)) = false := by
    rw [← Array.all_toList, hes, List.all_cons]
    have : decide (e.born ≥ clock) = false := by simp; omega
    rw [this]; rfl
   rw [this, Bool.and_false]
 refine wp_block (Q1U (fun f a' w' => ∃ (vis : List (cKT.den × cVT.den)) (seen : Array Nat) (m : Mem) (μ : LMap), f = (Q1m L seen).length + 1 ∧ (vis ++ Q1m L seen).Perm ys ∧ RS m μ (mcS [(7, .ptr 2 [])] []).sl a' ∧
   Q11 2 m0 μ0 [some (.mpc cKT cVT D0), none] w0 m μ [some (.mpc cKT cVT (Q2b cKT D0 vis)), none, some .unit] w' ∧ μ 2 = some ⟨b0, 0, .unit, 0, 0, false⟩ ∧ w'.heap[b0]? = some (.mapIter (some lm.b) clock seen clock)) ?_ ?_ (n := ys.length + 1)
  ⟨[], #[], m1, _, ?_, ?_, ?_, P2, ?_, hiw⟩)
 ·rintro a w ⟨_, _, _, _, h, _⟩; omega
 ·rintro f a2 w2 ⟨vis, seen, m2, μ2, hfe, hvp, rs2, P, hμ2, hw2⟩
  have hs2 := hsrc P
  have nob2 := Q5R P.rh hw2
  have hpt : a2.eval (.tmp 7) = .pointer (some ⟨b0, 0, none⟩) := Q6o rs2 rfl hμ2
  obtain ⟨o1, k1, k2, k3, k4⟩ := mc.o1.get
  refine wp_seq (wp_region ?_)
  rw [List.range_eq_range', mc.s1]
  rw [show List.range' 0 2 = 0 :: List.range' 1 1 from rfl, wpOps_cons]
  by_cases hne : (es.filter fun e => !seen.contains e.born) = #[]
  ·-- the end
   have hleft : Q1m L seen = [] := by
    unfold Q1m
    rw [List.map_eq_nil_iff, List.filter_eq_nil_iff]
    intro p hp
    have he : p.2 ∈ es.toList := by rw [← hL2]; exact List.mem_map.2 ⟨p, hp, rfl⟩
    have := (Array.filter_eq_empty_iff.1 hne) p.2 (by simpa using he)
    simpa using this
   refine Q26 (w' := w2) (v := .tuple #[.bool false]) k1 k3 (Q40 k2 (by rw [hpt]; exact Q51 hw2 hs2 hne (hg seen))) ?_
   rw [k4]
   have rs3 : RS m2 μ2 (mcS [(7, .ptr 2 []), (8, .tup (.pair (.bool false) .unit))] []).sl (a2.put (some 8) (.tuple #[.bool false])) := by
    refine (rs2.put (d := 8) (x := .tup (.pair (.bool false) .unit)) (tup1 false)).keepM [0, 1, 7, 8] ?_
    kernel_rfl
   refine Q7a mc.gok (os := (mcO [1,0,0,0]).toList.drop 1) (st := mcS [(7, .ptr 2 []), (8, .tup (.pair (.bool false) .unit))] [some (.mpc cKT cVT (Q2b cKT D0 vis)), none, some .unit]) 1 _ (fun j o hj => by
     rw [← Array.getElem?_toList]
     rw [List.getElem?_drop] at hj
     exact hj) (mc.e1f _) [] P.rh rs3 fun a4 w4 m4 μ4 rs4 p4 => ?_
   simp only [wpOps, Exit.then]
   have P4 := P.trans (p4.toW (np := 2))
   have hb9 : a4.eval (.tmp 9) = .bool false := by
    have h9 : VRel m4 μ4 (.bool false) (a4.eval (.tmp 9)) := Q04 rs4 (.tmp 9)
    exact h9.isBool
   refine wp_seq (wp_cond_false hb9 (wp_exit ?_))
   simp only [Exit.then, Exit.inBlock, if_true]
   rw [hleft, List.append_nil] at hvp
   have hlm4 := P4.fix 1 lm (by omega) hlm
   have hkb' : (Q2b cKT D0 vis).Perm (Q2b cKT D0 S) := QaN hkb (hvp.trans hperm) (by
    have := (hvp.map fun x => x.1).nodup_iff.2 hnd
    exact this) hnD
   have p5 := p4.rh.reorder (i := 0) (kt := cKT) (vt := cVT) rfl hkb'
   have P5 := P4.trans (p5.toW (np := 2))
   have P6 := (Q5c (np := 2) rh (mid := 1) (kt := cKT) (vt := cVT) (xs := S) rfl hlm hmp (by omega) P5).2
   have rs6 : RS m4 μ4 (mcS [] []).sl a4 := rs4.keepM [0, 1] (by kernel_rfl)
   obtain ⟨m7, μ7, rs7, p7⟩ := (Q7l (np := 2) (st := ⟨(mcS [] []).sl, [some (.mpc cKT cVT (Q2b cKT D0 S)), some (.mpc cKT cVT S), some .unit]⟩) (keep := [0, 1]) rfl rfl) m4 μ4 w4 a4 P6.rh rs6
   exact hQ a4 w4 m7 μ7 rs7 (P6.trans p7)
  ·-- an entry
   obtain ⟨e, dr, he, hse, hrun⟩ := Qc3 (P := Tryz.prog) (ty := o1.type) hw2 hs2 hborn hne (hg seen)
   obtain ⟨y, hyL⟩ := hmem e he
   obtain ⟨dk, dv⟩ := hLdv _ hyL
   have hit3 := P.it hw2 hb0w clock clock (seen.push e.born)
   have P3 := QaC hit3 dr
   generalize hw3 : ({ w2 with heap := w2.heap.setIfInBounds b0 (.mapIter (some lm.b) clock (seen.push e.born) clock), drawn := dr } : World) = w3 at hrun
   have P3' : Q11 2 m0 μ0 [some (.mpc cKT cVT D0), none] w0 m2 μ2 [some (.mpc cKT cVT (Q2b cKT D0 vis)), none, some .unit] w3 := by rw [← hw3]; exact P3
   have hw3i : w3.heap[b0]? = some (.mapIter (some lm.b) clock (seen.push e.born) clock) := by
    rw [← hw3]; simp [Q0Q hw2]
   have up : ∀ {m : Mem} {t : Ty} {d : t.den} {v : Value}, m0.le m → DV m0 t d v → DV m t d v := fun hm h => Q1k.mono hm (LMap.le_refl _) h
   refine Q26 (w' := w3) (v := .tuple #[.bool true, e.key, e.val]) k1 k3 (Q40 k2 (by rw [hpt]; exact hrun)) ?_
   rw [k4]
   have rs3 : RS m2 μ2 (mcS [(7, .ptr 2 []), (8, .tup (.pair (.bool true) (.pair (toA cKT y.1) (.pair (toA cVT y.2) .unit))))] []).sl (a2.put (some 8) (.tuple #[.bool true, e.key, e.val])) := by
    refine (rs2.put (d := 8) (x := .tup (.pair (.bool true) (.pair (toA cKT y.1) (.pair (toA cVT y.2) .unit)))) (tup3 (up P.ml dk) (up P.ml dv))).keepM [0, 1, 7, 8] ?_
    kernel_rfl
   refine Q7a mc.gok (os := (mcO [1,0,0,0]).toList.drop 1) (st := mcS [(7, .ptr 2 []), (8, .tup (.pair (.bool true) (.pair (toA cKT y.1) (.pair (toA cVT y.2) .unit))))] [some (.mpc cKT cVT (Q2b cKT D0 vis)), none, some .unit]) 1 _ (fun j o hj => by
     rw [← Array.getElem?_toList]
     rw [List.getElem?_drop] at hj
     exact hj) (mc.e1t _ y.1 y.2) [] P3'.rh rs3 fun a4 w4 m4 μ4 rs4 p4 => ?_
   simp only [wpOps, Exit.then]
   have P4 := P3'.trans (p4.toW (np := 2))
   have nob3 := Q5R P3'.rh hw3i
   have hw4i := (p4.keep b0 (Q0Q hw3i) nob3).trans hw3i
   have hμ4 := p4.μl _ _ hμ2
   have hb9 : a4.eval (.tmp 9) = .bool true := by
    have h9 : VRel m4 μ4 (.bool true) (a4.eval (.tmp 9)) := Q04 rs4 (.tmp 9)
    exact h9.isBool
   refine wp_seq (wp_cond_true hb9 (wp_skip ?_))
   simp only [Exit.then]
   obtain ⟨o2, q1, q2, q3, q4⟩ := mc.o2.get
   refine wp_block (wp_seq (wp_region ?_))
   rw [List.range_eq_range', mc.s2]
   rw [show List.range' 0 7 = 0 :: List.range' 1 6 from rfl, wpOps_cons]
   have hpt4 : a4.eval (.tmp 7) = .pointer (some ⟨b0, 0, none⟩) := Q6o rs4 rfl hμ4
   refine Q26 (w' := w4) (v := .tuple #[e.key, e.val]) q1 q3 (Q7J q2 (by rw [hpt4]; exact Qby hw4i (hsrc P4) he hbnd)) ?_
   rw [q4]
   have rs5 : RS m4 μ4 (mcS [(7, .ptr 2 []), (10, .tup (.pair (toA cKT y.1) (.pair (toA cVT y.2) .unit)))] []).sl (a4.put (some 10) (.tuple #[e.key, e.val])) := by
    refine (rs4.put (d := 10) (x := .tup (.pair (toA cKT y.1) (.pair (toA cVT y.2) .unit))) (tup2 (up P4.ml dk) (up P4.ml dv))).keepM [0, 1, 7, 10] ?_
    kernel_rfl
   refine Q7a mc.gok (os := (mcO [1,0,0,1,1,0,0]).toList.drop 1) (st := mcS [(7, .ptr 2 []), (10, .tup (.pair (toA cKT y.1) (.pair (toA cVT y.2) .unit)))] [some (.mpc cKT cVT (Q2b cKT D0 vis)), none, some .unit]) 1 _ (fun j o hj => by
     rw [← Array.getElem?_toList]
     rw [List.getElem?_drop] at hj
     exact hj) (mc.e2 _ _ _ y.1 y.2) [] p4.rh rs5 fun a6 w6 m6 μ6 rs6 p6 => ?_
   simp only [wpOps, Exit.then]
   have P6 := P4.trans (p6.toW (np := 2))
   have hw6i := (p6.keep b0 (Q0Q hw4i) (Q5R p4.rh hw4i)).trans hw4i
   have hμ6 := p6.μl _ _ hμ4
   refine (Qd7 (np := 3) mc.gok Tryz.mix _ (mc.e3 (Q2b cKT D0 vis) none (some .unit) y.1 y.2)) m6 μ6 w6 a6 _ p6.rh rs6 fun a7 w7 m7 μ7 rs7 p7 => ?_
   have P7 := P6.trans (p7.weaken (by omega))
   have hw7i := (p7.keep b0 (Q0Q hw6i) (Q5R p6.rh hw6i)).trans hw6i
   have hμ7 := p7.fix 2 _ (by omega) hμ6
   obtain ⟨m8, μ8, rs8, p8⟩ := (Q7l (np := 3) (st := ⟨(mcS [(7, .ptr 2 [])] []).sl, [some (.mpc cKT cVT (mset cKT y.1 y.2 (Q2b cKT D0 vis))), none, some .unit, some (mcP y.1), some (mcC y.2)]⟩) (keep := [0, 1, 2]) rfl rfl) m7 μ7 w7 a7 p7.rh rs7
   have P8 := P7.trans (p8.weaken (by omega))
   simp only [Exit.inBlock]
   have hlt2 := Q8y (p := (y, e)) (seen := seen) hLn hyL hse
   have hlen2 := hlt2.length_eq
   simp only [List.length_cons] at hlen2
   refine ⟨vis ++ [y], seen.push e.born, m8, μ8, by omega, ?_, rs8, ?_, p8.fix 2 _ (by omega) hμ7, hw7i⟩
   ·refine List.Perm.trans ?_ hvp
    rw [List.append_assoc]
    exact (List.Perm.append_left vis hlt2.symm)
   ·rw [Q7Z]; exact P8
 ·have : Q1m L #[] = ys := by
   unfold Q1m
   rw [List.filter_eq_self.2 (fun p _ => by simp), hL1]
  rw [this]
 ·have : Q1m L #[] = ys := by
   unfold Q1m
   rw [List.filter_eq_self.2 (fun p _ => by simp), hL1]
  rw [this]; exact .refl _
 ·have hrs := ((rs1.mono (Mem.le_refl _) hit.μl).put (d := 7) (x := .ptr 2 []) (v := .pointer (some ⟨b0, 0, none⟩)) ⟨⟨b0, 0, .unit, 0, 0, false⟩, 0, .unit, if_pos rfl, rfl, rfl⟩).keepM [0, 1, 7] (sl' := (mcS [(7, .ptr 2 [])] []).sl) (by kernel_rfl)
  exact hrs
 ·exact if_pos rfl
end Go.Am
namespace Go.Am
open Go Go.Proofs
def asMp : AVal → Option (List (cKT.den × cVT.den))
 | .mpc kt vt xs => if h : kt = cKT then (if h' : vt = cVT then some (by subst h; subst h'; exact xs) else none) else none
 | _ => none
theorem Qbu {a : AVal} {xs : List (cKT.den × cVT.den)} (h : asMp a = some xs) : a = .mpc cKT cVT xs := by
 cases a with
 | mpc kt vt ys =>
  simp only [asMp] at h
  split at h
  ·rename_i e
   split at h
   ·rename_i e'
    subst e; subst e'; cases h; rfl
   ·cases h
  ·cases h
 | _ => cases h
def mcH (i j : Nat) (D S : List (cKT.den × cVT.den)) (H : Heap) : Heap :=
 Q1A [i, j] (renH (Q1c [i, j] 2 H.length) [some (.mpc cKT cVT (Q2b cKT D S)), some (.mpc cKT cVT S)]) H ++ renH (Q1c [i, j] 2 H.length) (([some (.mpc cKT cVT (Q2b cKT D S)), some (.mpc cKT cVT S)] : Heap).drop 2)
def Q9v (args : List AVal) (H : Heap) : Option Res :=
  match args with
  | [.mp i, .mp j] =>
    cond (!Nat.beq i j && (Q1V [i, j] && Q2z H [i, j]))
    (match H[i]?, H[j]? with
     | some (some a), some (some b) =>
       (match asMp a, asMp b with
        | some D, some S => some ⟨true, resL [], mcH i j D S H, .touch H.length [i, j]⟩
        | _, _ => none)
     | _, _ => none) none
  | _ => none
def Q7G : Qj := Q2W Q9v
theorem Qab : Qb Tryz.prog 106 Q7G := by
 refine Q3N fun args H r h _ => ?_
 simp only [Q9v] at h
 split at h
 case h_2 => cases h
 rename_i i j
 rw [Bool.cond_eq_ite] at h
 split at h
 case isFalse => cases h
 rename_i hok
 simp only [Bool.and_eq_true, Bool.not_eq_true'] at hok
 obtain ⟨hij, hnd, hlive⟩ := hok
 have hij : i ≠ j := fun e => by subst e; simp at hij
 split at h
 case h_2 => cases h
 rename_i a b hi hj
 split at h
 case h_2 => cases h
 rename_i D S hD hS
 cases h
 have ha := Qbu hD
 have hb := Qbu hS
 subst ha; subst hb
 have hgi : H.getD i none = some (.mpc cKT cVT D) := by rw [List.getD_eq_getElem?_getD, hi]; rfl
 have hgj : H.getD j none = some (.mpc cKT cVT S) := by rw [List.getD_eq_getElem?_getD, hj]; rfl
 have e1 : (([AVal.mp i, AVal.mp j].map fun a => (renA [i, j] a).getD .undef) ++ List.replicate (Tryz.f106.ntmps - 2) AVal.undef) = (mcS [] []).sl := by
  have h1 : renA [i, j] (.mp i) = some (.mp 0) := by simp [renA, Q1F]
  have h2 : renA [i, j] (.mp j) = some (.mp 1) := by simp [renA, Q1F, Ne.symm hij]
  have h3 : ([AVal.mp i, AVal.mp j].map fun a => (renA [i, j] a).getD .undef) = [.mp 0, .mp 1] := by simp [h1, h2]
  rw [h3]
  have h4 : Tryz.f106.ntmps = 16 := by kernel_rfl
  rw [h4]
  rfl
 have e2 : ([i, j].map fun n => (H.getD n none).bind (renA [i, j])) = [some (.mpc cKT cVT D), some (.mpc cKT cVT S)] := by
  simp only [List.map_cons, List.map_nil, hgi, hgj]
  rfl
 have := Q2S (C := ⟨Tryz.prog, gam []⟩) (f := 106) (fn := Tryz.f106) (c := Func.code Tryz.f106) Tryz.func106 (by kernel_rfl) (by kernel_rfl) (args := [.mp i, .mp j]) (vs := []) (H := H) (keep := [i, j]) (e := .normal)
  (st' := mcS [] [some (.mpc cKT cVT (Q2b cKT D S)), some (.mpc cKT cVT S)]) hnd hlive (by
   have hg := mc.goes D S
   have e3 : (mcS [] [some (.mpc cKT cVT D), some (.mpc cKT cVT S)]) = ⟨([AVal.mp i, AVal.mp j].map fun a => (renA [i, j] a).getD .undef) ++ List.replicate (Tryz.f106.ntmps - [AVal.mp i, AVal.mp j].length) AVal.undef, [i, j].map fun n => (H.getD n none).bind (renA [i, j])⟩ := by
    rw [e2]
    show _ = (⟨([AVal.mp i, AVal.mp j].map fun a => (renA [i, j] a).getD .undef) ++ List.replicate (Tryz.f106.ntmps - 2) AVal.undef, _⟩ : St)
    rw [e1]; rfl
   rw [e3] at hg
   exact hg) (by kernel_rfl) (.inr rfl) rfl (by simp [mcS])
 refine ⟨fun n hn hnt => ?_, this⟩
 simp only [List.mem_cons, List.not_mem_nil, or_false, not_or] at hnt
 show (mcH i j D S H)[n]? = H[n]?
 unfold mcH
 simp only [renH, List.drop_succ_cons, List.drop_zero, List.append_nil, Q1A]
 rw [List.getElem?_set_ne (Ne.symm hnt.2), List.getElem?_set_ne (Ne.symm hnt.1)]
end Go.Am
namespace Go.Am
open Go Go.Proofs Go.Shelf Go.Lib
abbrev bsT (n : Nat) (vs : List Value) : List (Option Value) := vs.map some ++ List.replicate (n - vs.length) none
theorem TS.begin (n : Nat) (vs : List Value) : TS (bsT n vs) { tmps := vs.toArray ++ Array.replicate (n - vs.toArray.size) undef, defers := [] } := by
 refine ⟨by simp, rfl, fun i v h => ?_⟩
 rcases Nat.lt_or_ge i vs.length with h1 | h1
 ·rw [List.getElem?_append_left (by simpa using h1)] at h
  rw [Array.getElem?_append_left (by simpa using h1)]
  rw [List.getElem?_map] at h
  simpa using h
 ·rw [List.getElem?_append_right (by simpa using h1), List.getElem?_replicate] at h
  split at h <;> simp at h
noncomputable abbrev bOps (c : Code) (p : List Nat) : Array Oper := match Q0e c p with | .region _ ops _ => ops | _ => #[]
theorem ag95 : Q1H Tryz.prog 95 = some false := by kernel_rfl
theorem Q9Z {P : Program} {w : World} {b o : Nat} {cs : Array Value} {E : TypeId} {fz : Nat × Nat} {T : TypeId} {v : Value} (hb : w.heap[b]? = some (.cells cs E fz)) (h1 : Q1H P T = some false) (hv : cs[o]? = some v) :
  (loadVar T ⟨b, o, none⟩).run P w = .ok v w := by
 simp only [loadVar, run_bind, Q2s h1]
 exact Q4T (by rw [Q4b hb]; exact hv)
noncomputable abbrev L110 (p : List Nat) : Array Oper := bOps (Func.code Tryz.f110) p
theorem c110 : Func.code Tryz.f110 = .seq (.region 0 (L110 [0]) false) (.seq (.region 1 (L110 [1,0]) false) .ret) := by kernel_rfl
noncomputable abbrev L142 (p : List Nat) : Array Oper := bOps (Func.code Tryz.f142) p
theorem c142 : Func.code Tryz.f142 = .seq (.region 0 (L142 [0]) false) (.block 0 (.loop (.seq (.region 1 (L142 [1,0,0,0]) false) (.seq (.cond (.tmp 7) .skip (.exit 0)) (Q0e (Func.code Tryz.f142) [1,0,0,1,1]))))) := by kernel_rfl
theorem Qb2 {w : World} {b : Nat} : Calls Tryz.prog 110 #[Value.map (some b)] w fun e w' => e = .returned (.func (.func 142) #[] #[.pointer (some ⟨w.heap.size, 0, none⟩)]) ∧ w' = w.alloc (.cells #[Value.map (some b)] 95) := by
 refine calls_of_wp Tryz.func110 (c := Func.code Tryz.f110) (by kernel_rfl) ?_
 rw [c110]
 have ts0 := TS.begin 4 [Value.map (some b)]
 refine wp_seq (wp_region ?_)
 rw [show List.range (L110 [0]).size = [0, 1] from by kernel_rfl]
 refine ts0.step (d := 1) (p := .box 95 (.tmp 0)) (v := .pointer (some ⟨w.heap.size, 0, none⟩)) (w' := w.alloc (.cells #[Value.map (some b)] 95)) (by unfold OpAt; kernel_rfl) (fun o h => ?_) fun a1 ts1 => ?_
 ·have h0 : (({ tmps := #[Value.map (some b)] ++ Array.replicate (Tryz.f110.ntmps - #[Value.map (some b)].size) undef, defers := [] } : Act)).eval (.tmp 0) = .map (some b) := ts0.eval rfl
  unfold execOp
  rw [h]
  dsimp only
  rw [h0]
  simp only [Instr.box, run_bind, Q4h, QP]
  rfl
 refine ts1.assign (v := .nilFunc) (d := 2) (x := .const .nilFunc) (by unfold OpAt; kernel_rfl) rfl fun a2 ts2 => ?_
 simp only [wpOps, Exit.then]
 refine wp_seq (wp_region ?_)
 rw [show List.range (L110 [1, 0]).size = [0, 1] from by kernel_rfl]
 refine ts2.step (d := 3) (p := .makeFunc (.func 142) #[] #[.tmp 1]) (v := .func (.func 142) #[] #[.pointer (some ⟨w.heap.size, 0, none⟩)]) (w' := w.alloc (.cells #[Value.map (some b)] 95)) (by unfold OpAt; kernel_rfl) (fun o h => ?_) fun a3 ts3 => ?_
 ·have h1 : a2.eval (.tmp 1) = .pointer (some ⟨w.heap.size, 0, none⟩) := ts2.eval rfl
  unfold execOp
  rw [h]
  dsimp only
  simp only [List.map_toArray, List.map_cons, List.map_nil, h1]
  rfl
 refine ts3.assign (d := 2) (x := .tmp 3) (by unfold OpAt; kernel_rfl) (ts3.eval rfl) fun a4 ts4 => ?_
 simp only [wpOps, Exit.then]
 refine wp_ret ⟨ts4.defers, _, ?_, rfl, rfl⟩
 have e2 : a4.tmps.getD 2 undef = _ := ts4.eval (t := 2) rfl
 have hr : Tryz.f110.results.toList = [.tmp 2] := by kernel_rfl
 have := Q2u (P := Tryz.prog) (w := w.alloc (.cells #[Value.map (some b)] 95)) (fn := Tryz.f110) (tmps := a4.tmps) (us := [.func (.func 142) #[] #[.pointer (some ⟨w.heap.size, 0, none⟩)]]) (by
  rw [hr]
  show ((pure (a4.tmps.getD 2 undef) : Sem Value) >>= fun v => (pure [v] : Sem (List Value))).run Tryz.prog _ = _
  rw [e2]; rfl)
 exact this
theorem t95 : ∃ k e, Tryz.prog.underlying 95 = some (.map k e) := ⟨28, 4, by kernel_rfl⟩
theorem Qaf {w : World} {y : Value} {bx b clock : Nat} (hbx : w.heap[bx]? = some (.cells #[Value.map (some b)] 95)) (hb : w.heap[b]? = some (.map #[] clock)) :
  Calls Tryz.prog 142 #[y, .pointer (some ⟨bx, 0, none⟩)] w fun e w' => (∃ v, e = .returned v) ∧ w' = w.alloc (.mapIter (some b) clock #[] clock) := by
 refine calls_of_wp Tryz.func142 (c := Func.code Tryz.f142) (by kernel_rfl) ?_
 rw [c142]
 have ts0 := TS.begin 14 [y, .pointer (some ⟨bx, 0, none⟩)]
 refine wp_seq (wp_region ?_)
 rw [show List.range (L142 [0]).size = [0, 1] from by kernel_rfl]
 refine ts0.load (d := 4) (T := 95) (x := .tmp 1) (v := .map (some b)) (by unfold OpAt; kernel_rfl) (ts0.eval rfl) ?_ fun a1 ts1 => ?_
 ·exact Q9Z hbx ag95 rfl
 refine ts1.step (d := 5) (p := .range 95 (.tmp 4)) (v := .pointer (some ⟨w.heap.size, 0, none⟩)) (w' := w.alloc (.mapIter (some b) clock #[] clock)) (by unfold OpAt; kernel_rfl) (fun o h => ?_) fun a2 ts2 => ?_
 ·obtain ⟨K, V, hu⟩ := t95
  have h4 : a1.eval (.tmp 4) = .map (some b) := ts1.eval rfl
  unfold execOp
  rw [h]
  simp only [h4, Sem.run_bind, run_range_map w 95 K V b #[] clock hu hb, Result.andThen]
  rfl
 simp only [wpOps, Exit.then]
 refine wp_block (Q1U (fun j a' w' => j = 1 ∧ a' = a2 ∧ w' = w.alloc (.mapIter (some b) clock #[] clock)) (fun _ _ h => by omega) (fun j a' w' h => ?_) (n := 1) ⟨rfl, rfl, rfl⟩)
 obtain ⟨hj, rfl, rfl⟩ := h
 refine wp_seq (wp_region ?_)
 rw [show List.range (L142 [1, 0, 0, 0]).size = [0, 1] from by kernel_rfl]
 have hlt := Q0Q hb
 refine ts2.step (d := 6) (p := .next (.tmp 5) false) (v := .tuple #[.bool false]) (w' := w.alloc (.mapIter (some b) clock #[] clock)) (by unfold OpAt; kernel_rfl) (fun o h => ?_) fun a3 ts3 => ?_
 ·have h5 : a'.eval (.tmp 5) = .pointer (some ⟨w.heap.size, 0, none⟩) := ts2.eval rfl
  unfold execOp
  rw [h]
  dsimp only
  rw [h5, run_bind, Q51 (b := w.heap.size) (bm := b) (since := clock) (seen := #[]) (last := clock) (es := #[]) (clock := clock) (heap_alloc_new _ _) ?_ (by simp) (by simp)]
  ·rfl
  ·show (w.heap.push _)[b]? = _
   rw [Array.getElem?_push, if_neg (by omega)]; exact hb
 refine ts3.step (d := 7) (p := .extract (.tmp 6) 0) (v := .bool false) (w' := w.alloc (.mapIter (some b) clock #[] clock)) (by unfold OpAt; kernel_rfl) (fun o h => ?_) fun a4 ts4 => ?_
 ·have h6 : a3.eval (.tmp 6) = .tuple #[.bool false] := ts3.eval rfl
  unfold execOp
  rw [h]
  dsimp only
  rw [h6]
  rfl
 simp only [wpOps, Exit.then]
 have h7 : a4.eval (.tmp 7) = .bool false := ts4.eval rfl
 refine wp_seq (wp_cond_false h7 (wp_exit ?_))
 simp only [Exit.then, Exit.inBlock, if_true]
 refine ⟨ts4.defers, .tuple #[], ?_, ⟨_, rfl⟩, rfl⟩
 have := Q2u (P := Tryz.prog) (w := w.alloc (.mapIter (some b) clock #[] clock)) (fn := Tryz.f142) (tmps := a4.tmps) (us := []) (by
  rw [show Tryz.f142.results.toList = [] from by kernel_rfl]
  rfl)
 exact this
noncomputable abbrev L82 (p : List Nat) : Array Oper := bOps (Func.code Tryz.f82) p
noncomputable abbrev Q9S : Code := match Q0e (Func.code Tryz.f82) [1,1,1,0,1,0] with | .rangeFunc _ _ a _ => a | _ => .skip
noncomputable abbrev Q9I : Code := match Q0e (Func.code Tryz.f82) [1,1,1,0,1,0] with | .rangeFunc _ _ _ b => b | _ => .skip
theorem c82 : Func.code Tryz.f82 = .seq (.region 0 (L82 [0]) false) (.seq (.region 1 (L82 [1,0]) false) (.seq (.region 2 (L82 [1,1,0]) false) (.seq (.seq (.region 3 (L82 [1,1,1,0,0]) false) (.block 0 (.rangeFunc (.tmp 15) #[16] Q9S Q9I)))
  (.seq (.block 2 (.loop (.seq (.seq (.region 6 (L82 [1,1,1,1,0,0,0,0,0]) false) (.cond (.tmp 23) .skip (.exit 2))) (Q0e (Func.code Tryz.f82) [1,1,1,1,0,0,0,1])))) (.seq (.region 15 (L82 [1,1,1,1,1,0]) false) .ret))))) := by kernel_rfl
theorem i37 : ∃ ti, Tryz.prog.info? 37 = some ti ∧ ti.zero = some (.slice none 0 0) := ⟨(Tryz.prog.info? 37).getD default, by kernel_rfl, by kernel_rfl⟩
theorem ag37 : Q1H Tryz.prog 37 = some false := by kernel_rfl
theorem t3 : Tryz.prog.underlying 3 = some (.int .i64) := by kernel_rfl
theorem t37 : Tryz.prog.underlying 37 = some (.slice 28) := by kernel_rfl
structure TD (D : List Deferred) (l : List (Option Value)) (a : Act) : Prop where
 size : a.tmps.size = l.length
 defers : a.defers = D
 val : ∀ (i : Nat) (v : Value), l[i]? = some (some v) → a.tmps[i]? = some v
theorem TS.defer {l : List (Option Value)} {a : Act} (ts : TS l a) (D : List Deferred) : TD (D ++ []) l { a with defers := D ++ a.defers } := ⟨ts.size, by show D ++ a.defers = _; rw [ts.defers], ts.val⟩
theorem TD.bare {D : List Deferred} {l : List (Option Value)} {a : Act} (ts : TD D l a) : TS l { a with defers := [] } := ⟨ts.size, rfl, ts.val⟩
theorem TD.put {D : List Deferred} {l : List (Option Value)} {a : Act} (ts : TD D l a) (d : Nat) (v : Value) : TD D (l.set d (some v)) (a.put (some d) v) := by
 have h := ts.bare.put d v
 exact ⟨h.size, ts.defers, h.val⟩
theorem TD.eval {D : List Deferred} {l : List (Option Value)} {a : Act} (ts : TD D l a) {t : Nat} {v : Value} (h : l.getD t none = some v) : a.eval (.tmp t) = v := ts.bare.eval h
theorem TD.step {P : Program} {ops : Array Oper} {Q : Exit → Act → World → Prop} {i d : Nat} {rest : List Nat} {l : List (Option Value)} {a : Act} {w w' : World} {v : Value} {p : Op} {D : List Deferred}
  (ts : TD D l a) (ho : OpAt ops i p (some d)) (hr : ∀ o : Oper, o.op = p → (execOp a.eval o).run P w = .ok (.value v) w') (hK : ∀ a', TD D (l.set d (some v)) a' → wpOps P ops Q rest a' w') : wpOps P ops Q (i :: rest) a w := by
 obtain ⟨o, h1, h2, h3, h4⟩ := ho.get
 rw [wpOps_cons]
 refine Q26 h1 h3 (hr o h2) ?_
 rw [h4]
 exact hK _ (ts.put d v)
theorem Qca (P : Program) (T : TypeId) (xo yo : Operand) (w : World) : (do eqGuard .gtr T xo yo (.int .i64 0) (.int .i64 0); binOp .gtr T (.int .i64 0) (.int .i64 0) : Sem Value).run P w = .ok (.bool false) w := by
 obtain ⟨z, h1, h2⟩ := Q8B (P := P) (m := fun _ => none) (μ := fun _ => none) (w := w) (op := .gtr) (T := T) (x := .int .i64 0) (y := .int .i64 0) (xo := xo) (yo := yo) (v := .int .i64 0) (u := .int .i64 0) (r := (true, .bool false)) rfl rfl rfl rfl
 have := h2.isBool
 subst this
 exact h1
set_option maxHeartbeats 1000000 in
theorem QbA {w : World} {v0 v2 : Value} {b clock : Nat} (hb : w.heap[b]? = some (.map #[] clock)) :
  Calls Tryz.prog 82 #[v0, .map (some b), v2] w fun e w' => e = .returned (.map (some w.heap.size)) ∧ Fr (w.alloc (.map #[] clock)) w' := by
 have hlt := Q0Q hb
 refine (callsIn_wide (n := 3)).1 (callsIn_of_wp_marks Tryz.func82 (c := Func.code Tryz.f82) (by kernel_rfl) trivial ?_)
 rw [c82]
 have ts0 := TS.begin 53 [v0, .map (some b), v2]
 refine wpIn_seq (wpIn_wide.2 (wp_region ?_))
 rw [show List.range (L82 [0]).size = [0] from by kernel_rfl]
 refine ts0.assign (v := .map none) (d := 6) (x := .const (.map none)) (by unfold OpAt; kernel_rfl) rfl fun a1 ts1 => ?_
 simp only [wpOps, Exit.then]
 refine wpIn_seq (wpIn_wide.2 (wp_region ?_))
 rw [show List.range (L82 [1, 0]).size = [0, 1, 2] from by kernel_rfl]
 refine ts1.move (d := 12) (x := .tmp 1) (by unfold OpAt; kernel_rfl) (ts1.eval rfl) fun a2 ts2 => ?_
 have h12 := ts2.eval (t := 12) rfl
 refine ts2.enter (d := 13) (f := 113) (args := #[.tmp 12]) (ats := #[95]) (by unfold OpAt; kernel_rfl) Tryz.func113 (c := Func.code Tryz.f113) (by kernel_rfl) (by kernel_rfl) (R := fun e w' => e = .returned (.map (some w.heap.size)) ∧ w' = w.alloc (.map #[] clock)) ?_ fun e w1 hR => ?_
 ·have hargs : (#[Operand.tmp 12].map a2.eval) = #[.map (some b)] := by simp [h12]
  rw [hargs]
  exact AnyW.maps_Clone Mc.lays b #[] clock w hb
 obtain ⟨rfl, hw1⟩ := hR
 refine ⟨_, rfl, fun a3 ts3 => ?_⟩
 refine ts3.assign (d := 7) (x := .tmp 13) (by unfold OpAt; kernel_rfl) (ts3.eval rfl) fun a4 ts4 => ?_
 simp only [wpOps, Exit.then]
 have hb1 : w1.heap[b]? = some (.map #[] clock) := by
  subst hw1; show (w.heap.push _)[b]? = _; rw [Array.getElem?_push, if_neg (by omega)]; exact hb
 have f1 : Fr w1 w1 := Fr.refl _
 refine wpIn_seq (wpIn_wide.2 (wp_region ?_))
 rw [show List.range (L82 [1, 1, 0]).size = [0] from by kernel_rfl]
 obtain ⟨ti, hti, hz⟩ := i37
 refine ts4.alloc (d := 8) (T := 37) (ti := ti) (z := .slice none 0 0) (by unfold OpAt; kernel_rfl) hti hz fun a5 ts5 => ?_
 simp only [wpOps, Exit.then]
 generalize hw2 : ({ w1 with heap := w1.heap.push (.cells (Value.slice none 0 0).cells 37) } : World) = w2
 have f2 : Fr w1 w2 := by rw [← hw2]; exact f1.push _ _
 have hs2 : w2.heap.size = w1.heap.size + 1 := by rw [← hw2]; simp
 have hc8 : w2.heap[w1.heap.size]? = some (.cells #[.slice none 0 0] 37) := by
  rw [← hw2]; show (w1.heap.push _)[_]? = _; rw [Array.getElem?_push, if_pos rfl]; rfl
 have hb2 := (f2.keep b (Q0Q hb1)).trans hb1
 refine wpIn_seq (wpIn_seq (wpIn_wide.2 (wp_region ?_)))
 rw [show List.range (L82 [1, 1, 1, 0, 0]).size = [0, 1] from by kernel_rfl]
 refine ts5.move (d := 14) (x := .tmp 1) (by unfold OpAt; kernel_rfl) (ts5.eval rfl) fun a6 ts6 => ?_
 have h14 := ts6.eval (t := 14) rfl
 refine ts6.enter (d := 15) (f := 110) (args := #[.tmp 14]) (ats := #[95]) (by unfold OpAt; kernel_rfl) Tryz.func110 (c := Func.code Tryz.f110) (by kernel_rfl) (by kernel_rfl) (R := fun e w' => e = .returned (.func (.func 142) #[] #[.pointer (some ⟨w2.heap.size, 0, none⟩)]) ∧ w' = w2.alloc (.cells #[.map (some b)] 95)) ?_ fun e w3 hR => ?_
 ·have hargs : (#[Operand.tmp 14].map a6.eval) = #[.map (some b)] := by simp [h14]
  rw [hargs]
  exact Qb2
 obtain ⟨rfl, hw3⟩ := hR
 refine ⟨_, rfl, fun a7 ts7 => ?_⟩
 simp only [wpOps, Exit.then]
 have f3 : Fr w1 w3 := by rw [hw3]; exact f2.push _ _
 have hs3 : w3.heap.size = w1.heap.size + 2 := by rw [hw3]; simp [hs2]
 have hbx3 : w3.heap[w2.heap.size]? = some (.cells #[.map (some b)] 95) := by rw [hw3]; exact heap_alloc_new _ _
 have hc8' : w3.heap[w1.heap.size]? = some (.cells #[.slice none 0 0] 37) := by
  rw [hw3]; show (w2.heap.push _)[_]? = _; rw [Array.getElem?_push, if_neg (by omega)]; exact hc8
 have h15 := ts7.eval (t := 15) rfl
 refine wpIn_block (wpIn_rangeFunc fun fn _ => ?_)
 obtain ⟨w4, hw4⟩ : ∃ w4, ((w3.alloc (.deferred (some []))).alloc (.loop { state := .ready, pending := none, fn := fn, tmps := a7.tmps, params := #[16], assign := Q9S, body := Q9I, defers := w3.heap.size })) = w4 := ⟨_, rfl⟩
 refine ⟨w3.heap.size + 1, [{ target := .collected w3.heap.size, args := #[] }], w4, { target := .fn (.func 142) #[.pointer (some ⟨w2.heap.size, 0, none⟩)], args := #[.func (.yield (w3.heap.size + 1)) #[] #[]] }, w4, 142, #[.func (.yield (w3.heap.size + 1)) #[] #[], .pointer (some ⟨w2.heap.size, 0, none⟩)], w4, by rw [← hw4]; exact run_enterLoop_outer fn a7.tmps #[16] Q9S Q9I, ?_, fun _ _ => trivial, ?_, (fun _ => by omega), ?_⟩
 ·show (resolve _ _ 0).run _ _ = _
  have e1 : (#[Operand.const (.func (.yield (w3.heap.size + 1)) #[] #[])].map a7.eval) = #[.func (.yield (w3.heap.size + 1)) #[] #[]] := by simp [Act.eval]
  simp only [resolve, h15, Deferred.ofValue, e1, Array.empty_append, QP]
 ·have hn : (Tryz.f142.name == "runtime.NumGoroutine") = false := by kernel_rfl
  exact Q1z Tryz.func142 (c := Func.code Tryz.f142) (by kernel_rfl) hn _ _
 have f4 : Fr w1 w4 := by rw [← hw4]; exact (f3.push _ _).push _ _
 have hs4 : w4.heap.size = w1.heap.size + 4 := by rw [← hw4]; simp [hs3]
 have k4 : ∀ n, n < w3.heap.size → w4.heap[n]? = w3.heap[n]? := fun n hn => by
  rw [← hw4]; show ((w3.heap.push _).push _)[n]? = _
  rw [Array.getElem?_push, if_neg (by simp; omega), Array.getElem?_push, if_neg (by omega)]
 have hl4 : w4.heap[w3.heap.size + 1]? = some (.loop { state := .ready, pending := none, fn := fn, tmps := a7.tmps, params := #[16], assign := Q9S, body := Q9I, defers := w3.heap.size }) := by
  rw [← hw4]
  have := heap_alloc_new (w3.alloc (.deferred (some []))) (.loop { state := .ready, pending := none, fn := fn, tmps := a7.tmps, params := #[16], assign := Q9S, body := Q9I, defers := w3.heap.size })
  simpa using this
 have hd4 : w4.heap[w3.heap.size]? = some (.deferred (some [])) := by
  rw [← hw4]; show ((w3.heap.push _).push _)[w3.heap.size]? = _
  rw [Array.getElem?_push, if_neg (by simp), Array.getElem?_push, if_pos rfl]
 refine callsIn_wide.2 ((Qaf ((k4 _ (by omega)).trans hbx3) ((f4.keep b (Q0Q hb1)).trans hb1)).mono fun e w5 he => ?_)
 obtain ⟨⟨v, rfl⟩, hw5⟩ := he
 have k5 : ∀ n, n < w4.heap.size → w5.heap[n]? = w4.heap[n]? := fun n hn => by
  rw [hw5]; show (w4.heap.push _)[n]? = _
  rw [Array.getElem?_push, if_neg (by omega)]
 have f5 : Fr w1 w5 := by rw [hw5]; exact f4.push _ _
 have hs5 : w5.heap.size = w1.heap.size + 5 := by rw [hw5]; simp [hs4]
 refine ⟨_, _, run_endLoop ((k5 _ (by omega)).trans hl4) (by simp), ?_⟩
 simp only [Exit.inBlock, Exit.then]
 generalize hw6 : w5.putObj (w3.heap.size + 1) _ = w6
 have k6 : ∀ n, n ≠ w3.heap.size + 1 → w6.heap[n]? = w5.heap[n]? := fun n hn => by rw [← hw6]; exact World.putObj_heap_other hn
 have hs6 : w6.heap.size = w1.heap.size + 5 := by rw [← hw6]; simp [hs5]
 have f6 : Fr w1 w6 := ⟨by rw [← hw6]; exact f5.os, by rw [← hw6]; exact f5.tape, by rw [← hw6]; exact f5.output, by omega, fun n hn => (k6 n (by omega)).trans (f5.keep n hn)⟩
 have hc8f : w6.heap[w1.heap.size]? = some (.cells #[.slice none 0 0] 37) := ((k6 _ (by omega)).trans (k5 _ (by omega))).trans ((k4 _ (by omega)).trans hc8')
 have hd6 : w6.heap[w3.heap.size]? = some (.deferred (some [])) := ((k6 _ (by omega)).trans (k5 _ (by omega))).trans hd4
 have td0 := ts7.defer [{ target := .collected w3.heap.size, args := #[] }]
 generalize ({ tmps := a7.tmps, defers := [{ target := Target.collected w3.heap.size, args := #[] }] ++ a7.defers } : Act) = a8 at td0 ⊢
 refine wpIn_seq (wpIn_wide.2 (wp_block (Q1U (fun j a' w' => j = 1 ∧ a' = a8 ∧ w' = w6) (fun _ _ h => by omega) (fun j a' w' h => ?_) (n := 1) ⟨rfl, rfl, rfl⟩)))
 obtain ⟨hj, rfl, rfl⟩ := h
 refine wp_seq (wp_seq (wp_region ?_))
 rw [show List.range (L82 [1, 1, 1, 1, 0, 0, 0, 0, 0]).size = [0, 1, 2] from by kernel_rfl]
 refine td0.step (d := 21) (p := .load 37 (.tmp 8)) (v := .slice none 0 0) (w' := w') (by unfold OpAt; kernel_rfl) (fun o h => ?_) fun b1 td1 => ?_
 ·have h8 : a'.eval (.tmp 8) = .pointer (some ⟨w1.heap.size, 0, none⟩) := td0.eval rfl
  unfold execOp; rw [h]; dsimp only; rw [h8, run_bind]
  have : (Instr.loadAt 37 (.pointer (some ⟨w1.heap.size, 0, none⟩))).run Tryz.prog w' = .ok (.slice none 0 0) w' := by
   simp only [Instr.loadAt, run_bind, Instr.sureAddr, QP]; exact Q9Z hc8f ag37 rfl
  rw [this]; rfl
 refine td1.step (d := 22) (p := .call { callee := .builtin .len, args := #[.tmp 21], argTypes := #[37] }) (v := .int .i64 0) (w' := w') (by unfold OpAt; kernel_rfl) (fun o h => ?_) fun b2 td2 => ?_
 ·have h21 : b1.eval (.tmp 21) = .slice none 0 0 := td1.eval rfl
  unfold execOp; rw [h]
  show (do let d ← resolve b1.eval { callee := .builtin .len, args := #[.tmp 21], argTypes := #[37] } o.type; invoke d.target d.args : Sem Next).run _ _ = _
  have h5 : (Builtin.len_ #[37] o.type #[.slice none 0 0]).run Tryz.prog w' = .ok (.int .i64 0) w' := by
   unfold Builtin.len_
   simp [Qa t37]
   rfl
  have h6 : (#[Operand.tmp 21].map b1.eval) = #[.slice none 0 0] := by simp [h21]
  simp only [resolve, invoke, Go.builtin, run_bind, QP, h6, h5]
 refine td2.step (d := 23) (p := .binOp .gtr 3 (.tmp 22) (.const (.int .i64 0)) 3) (v := .bool false) (w' := w') (by unfold OpAt; kernel_rfl) (fun o h => ?_) fun b3 td3 => ?_
 ·have h22 : b2.eval (.tmp 22) = .int .i64 0 := td2.eval rfl
  unfold execOp; rw [h]
  show (do pure (.value (← (do eqGuard .gtr 3 (.tmp 22) (.const (.int .i64 0)) (b2.eval (.tmp 22)) (b2.eval (.const (.int .i64 0))); binOp .gtr 3 (b2.eval (.tmp 22)) (b2.eval (.const (.int .i64 0))) : Sem Value))) : Sem Next).run Tryz.prog w' = _
  rw [h22, run_bind]
  have := Qca Tryz.prog 3 (.tmp 22) (.const (.int .i64 0)) w'
  have e0 : b2.eval (.const (.int .i64 0)) = .int .i64 0 := rfl
  rw [e0, this]; rfl
 simp only [wpOps, Exit.then]
 have h23 : b3.eval (.tmp 23) = .bool false := td3.eval rfl
 refine wp_cond_false h23 (wp_exit ?_)
 simp only [Exit.then, Exit.inBlock, if_true]
 refine wpIn_seq (wpIn_wide.2 (wp_region ?_))
 rw [show List.range (L82 [1, 1, 1, 1, 1, 0]).size = [0, 1] from by kernel_rfl]
 refine td3.step (d := 52) (p := .move (.tmp 7)) (v := .map (some w.heap.size)) (w' := w') (by unfold OpAt; kernel_rfl) (fun o h => ?_) fun b4 td4 => ?_
 ·have h7 : b3.eval (.tmp 7) = .map (some w.heap.size) := td3.eval rfl
  unfold execOp; rw [h]; dsimp only; rw [h7]; rfl
 refine td4.step (d := 6) (p := .assign (.tmp 52)) (v := .map (some w.heap.size)) (w' := w') (by unfold OpAt; kernel_rfl) (fun o h => ?_) fun b5 td5 => ?_
 ·have h7 : b4.eval (.tmp 52) = .map (some w.heap.size) := td4.eval rfl
  unfold execOp; rw [h]; dsimp only; rw [h7]; rfl
 simp only [wpOps, Exit.then]
 refine wpIn_ret ?_
 show LeavesInM _ _ _ _ _ _ b5.defers _ _
 rw [td5.defers]
 refine ⟨by simp, .inl ⟨_, _, rfl, run_takeDeferred hd6, ?_⟩⟩
 have e6 : b5.tmps.getD 6 undef = .map (some w.heap.size) := td5.eval (t := 6) rfl
 have hr : Tryz.f82.results.toList = [.tmp 6] := by kernel_rfl
 have := Q2u (P := Tryz.prog) (w := w'.putObj w3.heap.size (.deferred none)) (fn := Tryz.f82) (tmps := b5.tmps) (us := [.map (some w.heap.size)]) (by
  rw [hr]
  show ((pure (b5.tmps.getD 6 undef) : Sem Value) >>= fun v => (pure [v] : Sem (List Value))).run Tryz.prog _ = _
  rw [e6]; rfl)
 refine ⟨_, this, rfl, ?_⟩
 rw [← hw1]
 exact ⟨f6.os, f6.tape, f6.output, by rw [World.putObj_size]; exact f6.size, fun n hn => (World.putObj_heap_other (by omega)).trans (f6.keep n hn)⟩
end Go.Am
namespace Go.Am
open Go Go.Proofs
theorem Fr.post {m : Mem} {μ : LMap} {H : Heap} {w w' : World} (rh : RH m μ H w) (h : Fr w w') : Post m μ H w m μ H w' := by
 have k : ∀ {b : Nat} {o : Obj}, w.heap[b]? = some o → w'.heap[b]? = some o := fun hb => (h.keep _ (Q0Q hb)).trans hb
 refine ⟨⟨fun b cs hb => ?_, fun i a hi => ?_, rh.inj, rh.dom, fun i a l hi hl hz => ?_, rh.vb, fun i a l hi hl hp => ?_, rh.mpi⟩, Mem.le_refl _, LMap.le_refl _, h.os, h.tape, h.output, h.size, fun b hb _ => h.keep b hb, fun _ ho _ => ho, fun _ _ hc => .inl hc, ⟨Nat.le_refl _, fun _ _ h => h⟩⟩
 ·obtain ⟨E, fz, h1⟩ := rh.mem b cs hb
  exact ⟨E, fz, k h1⟩
 ·obtain ⟨l, hbk⟩ := rh.blk i a hi
  refine ⟨l, hbk.loc, hbk.sh, ?_⟩
  rcases hbk.cells with g | ⟨p0, gm, cs, E, fz, g1, g2⟩
  ·exact .inl g
  ·exact .inr ⟨p0, gm, cs, E, fz, k g1, g2⟩
 ·obtain ⟨cs, fz, h1⟩ := rh.typ i a l hi hl hz
  exact ⟨cs, fz, k h1⟩
 ·obtain ⟨h0, kt, vt, xs, es, c, e, h1, h2⟩ := rh.mp i a l hi hl hp
  exact ⟨h0, kt, vt, xs, es, c, e, k h1, h2⟩
abbrev sKT : Ty := .arr 32 (.int .u8)
def isEm : AVal → Bool
 | .mpc kt vt xs => decide (kt = sKT) && (decide (vt = .bool) && xs.isEmpty)
 | _ => false
theorem QcT {a : AVal} (h : isEm a = true) : a = .mpc sKT .bool [] := by
 cases a with
 | mpc kt vt xs =>
  simp only [isEm, Bool.and_eq_true, decide_eq_true_eq, List.isEmpty_iff] at h
  obtain ⟨rfl, rfl, rfl⟩ := h
  rfl
 | _ => cases h
def Qce (args : List AVal) (H : Heap) : Option Res :=
  match args with
  | [_, .mp i, _] =>
    (match H[i]? with
     | some (some a) => cond (isEm a) (some ⟨true, .mp H.length, H ++ [some (.mpc sKT .bool [])], .touch H.length []⟩) none
     | _ => none)
  | _ => none
def Qcl : Qj := Q2W Qce
theorem QdE : Qb Tryz.prog 82 Qcl := by
 refine Q3N fun args H r h _ => ?_
 simp only [Qce] at h
 split at h
 case h_2 => cases h
 rename_i x0 i x2
 split at h
 case h_2 => cases h
 rename_i a hi
 rw [Bool.cond_eq_ite] at h
 split at h
 case isFalse => cases h
 rename_i hem
 cases h
 have := QcT hem
 subst this
 refine ⟨fun j hj _ => by rw [List.getElem?_append_left hj], ?_⟩
 intro m μ w vs rh hv
 match vs, hv with
 | [v0, v1, v2], ⟨_, hv1, _⟩ =>
  obtain ⟨l, es, c, hl, hp, rfl, hw, hm⟩ := Q4d rh hi hv1
  have hes : es = #[] := by
   obtain ⟨ys, hy, _, hr, _⟩ := hm
   have h0 : ys = [] := List.perm_nil.1 hy
   subst h0
   have := hr.1
   exact Array.toList_inj.1 (List.eq_nil_of_length_eq_zero this)
  subst hes
  have hn : (Tryz.f82.name == "runtime.NumGoroutine") = false := by kernel_rfl
  refine ⟨.enter 82 #[v0, .map (some l.b), v2], w, Q1z Tryz.func82 (c := Func.code Tryz.f82) (by kernel_rfl) hn _ w, .inl ⟨_, _, rfl, ?_⟩⟩
  refine (QbA hw).mono fun e w' he => ?_
  obtain ⟨rfl, hf⟩ := he
  have p1 := rh.mapCopy hm
  exact ⟨.map (some w.heap.size), m, _, rfl, ⟨⟨w.heap.size, 0, .unit, 0, 0, true⟩, if_pos rfl, rfl, rfl⟩, p1.trans (Fr.post p1.rh hf)⟩
end Go.Am
namespace Go.Am
open Go Go.Proofs
set_option maxRecDepth 100000
noncomputable def Kp.fns : List (Nat × Func) := [(61, Tryz.f61), (62, Tryz.f62)]
theorem Kp.fns_ok : Q3s Tryz.prog Kp.fns := .cons Tryz.func61 (by kernel_rfl) (.cons Tryz.func62 (by kernel_rfl) .nil)
noncomputable def Kp.ctx : Ctx := ⟨Tryz.prog, runH Tryz.prog [] Kp.fns [] 20 60 4⟩
theorem Kp.ok : ∀ f, Qb Kp.ctx.P f (Kp.ctx.Γ f) := fun f => Q3x QE Tryz.mix Kp.fns_ok 4 f
noncomputable def Run.s27 : Qj := Qar Kp.ctx Tryz.f27 (Func.code Tryz.f27) (annF Kp.ctx 20 60 (Func.code Tryz.f27))
theorem Run.m27 : Qb Tryz.prog 27 Run.s27 := Qdr (C := Kp.ctx) Kp.ok Tryz.mix Tryz.func27 (by kernel_rfl) (by kernel_rfl) (fun np => Q22 (C := Kp.ctx) Kp.ok Tryz.mix 20 60 _ np)
end Go.Am
namespace Go.Am
open Go
abbrev Nl.tx : Ty := .pair (.int .u32) (.pair (.sl (.pair (.pair QeW QeV) (.pair .str QeV))) (.pair (.sl (.pair (.int .u64) (.pair .str .unit))) QeV))
abbrev Nl.hd : Ty := .pair (.int .u32) (.pair QeW (.pair QeW (.pair (.int .u32) (.pair (.int .u32) QeV))))
abbrev Nl.blk : Ty := .pair Nl.hd (.pair (.sl Nl.tx) .unit)
def Nl.added : AVal := .pair (.arr 32 (.int .u8) (List.replicate 32 0)) (.pair .nils (.pair .nils (.pair (.bool false) .unit)))
def QbZ (args : List AVal) (H : Heap) : Option Res :=
 match args with
 | [.nilp, x, .rop _ _, _] => (match Q12 Nl.tx x with | some _ => some ⟨true, resL [Nl.added, .int .i64 1], H, .pure⟩ | none => none)
 | [.rop _ _, x, .nilp, _] => (match Q12 Nl.tx x with | some _ => some ⟨true, resL [Nl.added, .int .i64 1], H, .pure⟩ | none => none)
 | _ => none
def Qcw (args : List AVal) (H : Heap) : Option Res :=
 match args with
 | [.nilp, x, .rop _ _, _] => (match Q12 Nl.blk x with | some _ => some ⟨true, .nils, H, .pure⟩ | none => none)
 | _ => none
def Qc6 (args : List AVal) (H : Heap) : Option Res :=
 match args with
 | [.nilp, .rop _ _, _] => some ⟨true, .nils, H, .pure⟩
 | _ => none
def Qch (args : List AVal) (H : Heap) : Option Res :=
 match args with
 | [.nilp, x] => (match Q12 QeW x with | some _ => some ⟨true, .nils, H, .pure⟩ | none => none)
 | _ => none
end Go.Am
namespace Go.Am
open Go Go.Proofs
set_option maxRecDepth 100000
noncomputable def Cn.told : List (Nat × Qj) := [(44, Q0m.sem 140737488355328), (80, Qm.sem 140737488355328), (43, Q0W.sem 140737488355328), (79, Q0w.sem 140737488355328), (140, Q0y.sem 140737488355328), (138, Q0x.sem 140737488355328), (31, Run.s31), (35, Run.s35), (137, Run.s137), (106, Q7G)]
theorem Cn.told_ok : ∀ f, Qb Tryz.prog f (gam Cn.told f) := (Q7 (Q0m.sem_ok 140737488355328) (Q7 (Qm.sem_ok 140737488355328) (Q7 (Q0W.sem_ok 140737488355328) (Q7 (Q0w.sem_ok 140737488355328) (Q7 (Q0y.sem_ok 140737488355328) (Q7 (Q0x.sem_ok 140737488355328) (Q7 (Run.m31) (Q7 (Run.m35) (Q7 (Run.m137) (Q7 (Qab) QE))))))))))
noncomputable def Cn.fns : List (Nat × Func) := [(104, Tryz.f104), (105, Tryz.f105), (139, Tryz.f139), (167, Tryz.f167), (168, Tryz.f168)]
theorem Cn.fns_ok : Q3s Tryz.prog Cn.fns := (.cons Tryz.func104 (by kernel_rfl) (.cons Tryz.func105 (by kernel_rfl) (.cons Tryz.func139 (by kernel_rfl) (.cons Tryz.func167 (by kernel_rfl) (.cons Tryz.func168 (by kernel_rfl) .nil)))))
noncomputable def Cn.ctx : Ctx := ⟨Tryz.prog, runK Tryz.prog Cn.told Cn.fns [] 20 60 6⟩
theorem Cn.ctx_ok : ∀ f, Qb Cn.ctx.P f (Cn.ctx.Γ f) := fun f => Q5L Cn.told_ok Tryz.mix Cn.fns_ok 6 f
noncomputable def Cn.ann : Ann := annF Cn.ctx 20 60 (Func.code Tryz.f73)
theorem Cn.ann_ok (np : Nat) : Q3 np Cn.ctx.P (Func.code Tryz.f73) Cn.ann := Q22 (C := Cn.ctx) Cn.ctx_ok Tryz.mix 20 60 _ np
abbrev Cn.hT : Ty := .arr 32 (.int .u8)
abbrev Cn.pT : Ty := .pair Cn.hT QeV 
abbrev Cn.oT : Ty := .pair (.int .u64) (.pair .str .unit)
abbrev Cn.cT : Ty := .pair Cn.oT (.pair (.int .i64) (.pair .bool .unit))
def Cn.coin (i : Nat) (h : Int) : Cn.cT.den := ((1000, ((if i % 2 = 0 then ⟨#[]⟩ else ⟨#[215, 117, 128, 171]⟩ : ByteArray), ())), (h, (true, ())))
def Cn.four (id : List Int) (h : Int) : List (Cn.pT.den × Cn.cT.den) := [((id, ((0 : Int), ())), Cn.coin 0 h), ((id, ((1 : Int), ())), Cn.coin 1 h), ((id, ((2 : Int), ())), Cn.coin 2 h), ((id, ((3 : Int), ())), Cn.coin 3 h)]
def Cn.map0 : List (Cn.pT.den × Cn.cT.den) := []
def Cn.cn0 : AVal := .pair (.mp 1) (.pair (.arr 32 (.int .u8) Run.id0) (.pair (.int .i64 0) .unit))
def Cn.map1 : List (Cn.pT.den × Cn.cT.den) := [] ++ Cn.four Run.root1 1
def Cn.cn1 : AVal := .pair (.mp 1) (.pair (.arr 32 (.int .u8) Run.id1) (.pair (.int .i64 1) .unit))
def Cn.map2 : List (Cn.pT.den × Cn.cT.den) := [] ++ Cn.four Run.root1 1 ++ Cn.four Run.root2 2
def Cn.cn2 : AVal := .pair (.mp 1) (.pair (.arr 32 (.int .u8) Run.id2) (.pair (.int .i64 2) .unit))
def Cn.map3 : List (Cn.pT.den × Cn.cT.den) := [] ++ Cn.four Run.root1 1 ++ Cn.four Run.root2 2 ++ Cn.four Run.root3 3
def Cn.cn3 : AVal := .pair (.mp 1) (.pair (.arr 32 (.int .u8) Run.id3) (.pair (.int .i64 3) .unit))
def Cn.map4 : List (Cn.pT.den × Cn.cT.den) := [] ++ Cn.four Run.root1 1 ++ Cn.four Run.root2 2 ++ Cn.four Run.root3 3 ++ Cn.four Run.root4 4
def Cn.cn4 : AVal := .pair (.mp 1) (.pair (.arr 32 (.int .u8) Run.id4) (.pair (.int .i64 4) .unit))
def Cn.map5 : List (Cn.pT.den × Cn.cT.den) := [] ++ Cn.four Run.root1 1 ++ Cn.four Run.root2 2 ++ Cn.four Run.root3 3 ++ Cn.four Run.root4 4 ++ Cn.four Run.root5 5
def Cn.cn5 : AVal := .pair (.mp 1) (.pair (.arr 32 (.int .u8) Run.id5) (.pair (.int .i64 5) .unit))
def Cn.e1 : MemE := ⟨[.ptr 0 [], .pair (toA Nl.hd Run.hdr1) (.pair (.vsl 2) .unit), .int .i64 1], [some Cn.cn0, some (.mpc Cn.pT Cn.cT Cn.map0), some (.vec Nl.tx [Run.tx1])], [.pair .nils .unit, .int .i64 0], [some Cn.cn1, some (.mpc Cn.pT Cn.cT Cn.map1), some (.vec Nl.tx [Run.tx1]), some (.pair .nils .unit)]⟩
def Cn.e2 : MemE := ⟨[.ptr 0 [], .pair (toA Nl.hd Run.hdr2) (.pair (.vsl 2) .unit), .int .i64 2], [some Cn.cn1, some (.mpc Cn.pT Cn.cT Cn.map1), some (.vec Nl.tx [Run.tx2])], [.pair .nils .unit, .int .i64 0], [some Cn.cn2, some (.mpc Cn.pT Cn.cT Cn.map2), some (.vec Nl.tx [Run.tx2]), some (.pair .nils .unit)]⟩
def Cn.e3 : MemE := ⟨[.ptr 0 [], .pair (toA Nl.hd Run.hdr3) (.pair (.vsl 2) .unit), .int .i64 3], [some Cn.cn2, some (.mpc Cn.pT Cn.cT Cn.map2), some (.vec Nl.tx [Run.tx3])], [.pair .nils .unit, .int .i64 0], [some Cn.cn3, some (.mpc Cn.pT Cn.cT Cn.map3), some (.vec Nl.tx [Run.tx3]), some (.pair .nils .unit)]⟩
def Cn.e4 : MemE := ⟨[.ptr 0 [], .pair (toA Nl.hd Run.hdr4) (.pair (.vsl 2) .unit), .int .i64 4], [some Cn.cn3, some (.mpc Cn.pT Cn.cT Cn.map3), some (.vec Nl.tx [Run.tx4])], [.pair .nils .unit, .int .i64 0], [some Cn.cn4, some (.mpc Cn.pT Cn.cT Cn.map4), some (.vec Nl.tx [Run.tx4]), some (.pair .nils .unit)]⟩
def Cn.e5 : MemE := ⟨[.ptr 0 [], .pair (toA Nl.hd Run.hdr5) (.pair (.vsl 2) .unit), .int .i64 5], [some Cn.cn4, some (.mpc Cn.pT Cn.cT Cn.map4), some (.vec Nl.tx [Run.tx5])], [.pair .nils .unit, .int .i64 0], [some Cn.cn5, some (.mpc Cn.pT Cn.cT Cn.map5), some (.vec Nl.tx [Run.tx5]), some (.pair .nils .unit)]⟩
end Go.Am
namespace Go.Am
open Go Go.Proofs
set_option maxRecDepth 100000
theorem Cn.ok1 : Q7X Tryz.prog Tryz.f73 (Func.code Tryz.f73) Cn.e1 := Q43 (C := Cn.ctx) (ann := Cn.ann) (fz := false) Cn.ctx_ok Tryz.mix Cn.ann_ok (by kernel_rfl)
end Go.Am
namespace Go.Am
open Go Go.Proofs
set_option maxRecDepth 100000
theorem Cn.ok2 : Q7X Tryz.prog Tryz.f73 (Func.code Tryz.f73) Cn.e2 := Q43 (C := Cn.ctx) (ann := Cn.ann) (fz := false) Cn.ctx_ok Tryz.mix Cn.ann_ok (by kernel_rfl)
end Go.Am
namespace Go.Am
open Go Go.Proofs
set_option maxRecDepth 100000
theorem Cn.ok3 : Q7X Tryz.prog Tryz.f73 (Func.code Tryz.f73) Cn.e3 := Q43 (C := Cn.ctx) (ann := Cn.ann) (fz := false) Cn.ctx_ok Tryz.mix Cn.ann_ok (by kernel_rfl)
end Go.Am
namespace Go.Am
open Go Go.Proofs
set_option maxRecDepth 100000
theorem Cn.ok4 : Q7X Tryz.prog Tryz.f73 (Func.code Tryz.f73) Cn.e4 := Q43 (C := Cn.ctx) (ann := Cn.ann) (fz := false) Cn.ctx_ok Tryz.mix Cn.ann_ok (by kernel_rfl)
end Go.Am
namespace Go.Am
open Go Go.Proofs
set_option maxRecDepth 100000
theorem Cn.ok5 : Q7X Tryz.prog Tryz.f73 (Func.code Tryz.f73) Cn.e5 := Q43 (C := Cn.ctx) (ann := Cn.ann) (fz := false) Cn.ctx_ok Tryz.mix Cn.ann_ok (by kernel_rfl)
end Go.Am
namespace Go.Am
open Go Go.Proofs
noncomputable def Run.s73 : Qj := (Q5H Cn.e5 (Q5H Cn.e4 (Q5H Cn.e3 (Q5H Cn.e2 (Q5H Cn.e1 Qbs)))))
theorem Run.m73 : Qb Tryz.prog 73 Run.s73 := (Q7P Tryz.func73 (by kernel_rfl) (by kernel_rfl) Cn.ok5 (Q7P Tryz.func73 (by kernel_rfl) (by kernel_rfl) Cn.ok4 (Q7P Tryz.func73 (by kernel_rfl) (by kernel_rfl) Cn.ok3 (Q7P Tryz.func73 (by kernel_rfl) (by kernel_rfl) Cn.ok2 (Q7P Tryz.func73 (by kernel_rfl) (by kernel_rfl) Cn.ok1 QcL)))))
end Go.Am
namespace Go.Am
open Go Go.Proofs
set_option maxRecDepth 100000
noncomputable def QQ.run.told (k : Nat) : List (Nat × Qj) := [(44, Q0m.sem k), (80, Qm.sem k), (43, Q0W.sem k), (79, Q0w.sem k), (140, Q0y.sem k), (138, Q0x.sem k), (70, Q1b.sem k), (37, Q0f.sem k), (91, Qy.sem k), (92, Q01.sem k), (112, Q10.sem k), (31, (Run.s31 )), (32, (Run.s32 )), (72, (Run.s72 )), (35, (Run.s35 )), (137, (Run.s137 )), (68, (Q81 Qi.tin Qi.tout (fun x => Qi 140737488355328 x.1 x.2.1 x.2.2.1))), (106, (Q7G )), (82, (Qcl )), (73, (Run.s73 )), (27, (Run.s27 ))]
noncomputable def QQ.run.fns : List (Nat × Func) := [(4, Tryz.f4), (5, Tryz.f5), (6, Tryz.f6), (9, Tryz.f9), (13, Tryz.f13), (22, Tryz.f22), (26, Tryz.f26), (29, Tryz.f29), (30, Tryz.f30), (33, Tryz.f33), (34, Tryz.f34), (39, Tryz.f39), (40, Tryz.f40), (45, Tryz.f45), (50, Tryz.f50), (58, Tryz.f58), (59, Tryz.f59), (61, Tryz.f61), (62, Tryz.f62), (63, Tryz.f63), (64, Tryz.f64), (65, Tryz.f65), (71, Tryz.f71), (78, Tryz.f78), (81, Tryz.f81), (83, Tryz.f83), (93, Tryz.f93), (110, Tryz.f110), (111, Tryz.f111), (142, Tryz.f142), (143, Tryz.f143), (144, Tryz.f144)]
theorem QQ.run.told_ok (k : Nat) : ∀ f, Qb Tryz.prog f (gam (QQ.run.told k) f) := (Q7 (Q0m.sem_ok k) (Q7 (Qm.sem_ok k) (Q7 (Q0W.sem_ok k) (Q7 (Q0w.sem_ok k) (Q7 (Q0y.sem_ok k) (Q7 (Q0x.sem_ok k) (Q7 (Q1b.sem_ok k) (Q7 (Q0f.sem_ok k) (Q7 (Qy.sem_ok k) (Q7 (Q01.sem_ok k) (Q7 (Q10.sem_ok k) (Q7 (Run.m31) (Q7 (Run.m32) (Q7 (Run.m72) (Q7 (Run.m35) (Q7 (Run.m137) (Q7 ((Q6I (Qi.sem_ok 140737488355328))) (Q7 (Qab) (Q7 (QdE) (Q7 (Run.m73) (Q7 (Run.m27) QE)))))))))))))))))))))
theorem QQ.run.fns_ok : Q3s Tryz.prog QQ.run.fns := (.cons Tryz.func4 (by kernel_rfl) (.cons Tryz.func5 (by kernel_rfl) (.cons Tryz.func6 (by kernel_rfl) (.cons Tryz.func9 (by kernel_rfl) (.cons Tryz.func13 (by kernel_rfl) (.cons Tryz.func22 (by kernel_rfl) (.cons Tryz.func26 (by kernel_rfl) (.cons Tryz.func29 (by kernel_rfl) (.cons Tryz.func30 (by kernel_rfl) (.cons Tryz.func33 (by kernel_rfl) (.cons Tryz.func34 (by kernel_rfl) (.cons Tryz.func39 (by kernel_rfl) (.cons Tryz.func40 (by kernel_rfl) (.cons Tryz.func45 (by kernel_rfl) (.cons Tryz.func50 (by kernel_rfl) (.cons Tryz.func58 (by kernel_rfl) (.cons Tryz.func59 (by kernel_rfl) (.cons Tryz.func61 (by kernel_rfl) (.cons Tryz.func62 (by kernel_rfl) (.cons Tryz.func63 (by kernel_rfl) (.cons Tryz.func64 (by kernel_rfl) (.cons Tryz.func65 (by kernel_rfl) (.cons Tryz.func71 (by kernel_rfl) (.cons Tryz.func78 (by kernel_rfl) (.cons Tryz.func81 (by kernel_rfl) (.cons Tryz.func83 (by kernel_rfl) (.cons Tryz.func93 (by kernel_rfl) (.cons Tryz.func110 (by kernel_rfl) (.cons Tryz.func111 (by kernel_rfl) (.cons Tryz.func142 (by kernel_rfl) (.cons Tryz.func143 (by kernel_rfl) (.cons Tryz.func144 (by kernel_rfl) .nil))))))))))))))))))))))))))))))))
def QQ.run.rds : List Nat := []
noncomputable def QQ.run.ctx (k : Nat) : Ctx := ⟨Tryz.prog, runH Tryz.prog (QQ.run.told k) QQ.run.fns QQ.run.rds 20 60 10⟩
def QQ (_ : Nat) : Option (Bool × Unit) := some (true, ())
def QQ.tin : List Ty := []
def QQ.tout : List Ty := [.bool]
def QQ.sem (k : Nat) : Qj := Qn QQ.tin QQ.tout fun _ => QQ k
theorem QQ.run.body {ρ : Type} (K : dens [Ty.bool] → Option ρ) : evC (QQ.run.ctx 140737488355328) (Func.code Tryz.f9) (annF (QQ.run.ctx 140737488355328) 20 60 (Func.code Tryz.f9)) (Q32 Tryz.f9.ntmps []) (finK Tryz.prog Tryz.f9.results.toList [.bool] K) = K (true, ()) := by kernel_rfl
theorem QQ.sem_ok (k : Nat) : Qb Tryz.prog 9 (QQ.sem k) :=
 Qbw (deep := 60) (n := 10) (fuel := 20) (rds := QQ.run.rds) (QQ.run.told_ok 140737488355328) Tryz.mix QQ.run.fns_ok Tryz.func9 (by kernel_rfl) (by kernel_rfl) (fun K => QQ.run.body K)
end Go.Am
namespace Go.Am
open Go Go.Proofs
set_option maxRecDepth 100000
def Nl.told : List (Nat × Qj) := [(31, Run.s31), (32, Run.s32)]
theorem Nl.told_ok : ∀ f, Qb Tryz.prog f (gam Nl.told f) := Q7 Run.m31 (Q7 Run.m32 QE)
noncomputable def Nl.ctx : Ctx := ⟨Tryz.prog, gam Nl.told⟩
theorem Nl.new5 : Qb Tryz.prog 5 Q86 := QcM fun H => Q9R (C := Nl.ctx) Nl.told_ok Tryz.mix Tryz.func5 (c := Func.code Tryz.f5) (by kernel_rfl) (by kernel_rfl) (ann := .nil) Q1J (by kernel_rfl) H
theorem Nl.new6 : Qb Tryz.prog 6 Q86 := QcM fun H => Q9R (C := Nl.ctx) Nl.told_ok Tryz.mix Tryz.func6 (c := Func.code Tryz.f6) (by kernel_rfl) (by kernel_rfl) (ann := .nil) Q1J (by kernel_rfl) H
theorem Qdn {m : Mem} {μ : LMap} (v : Value) : VRel m μ .undef v := trivial
theorem Qck {m : Mem} {μ : LMap} {t : Ty} {x : t.den} {v : Value} (h : VRel m μ (.rop t x) v) : VRel m μ (.rop .unit ()) v := by
 obtain ⟨ad, c, h1, h2, h3, h4⟩ : CRel m μ (.rop t x) [v] := h
 refine (⟨ad, [], h1, h2, ?_, rfl⟩ : CRel m μ (.rop .unit ()) [v])
 have e0 : Ty.unit.size = 0 := rfl
 unfold Mem.cells at h3 ⊢
 split at h3
 ·rename_i cs hb
  split at h3
  ·rw [if_pos (by omega), e0]; rfl
  ·cases h3
 ·cases h3
def QcF : Qj := Q2W QbZ
theorem Qdv : Qb Tryz.prog 4 QcF := by
 refine Q3N fun args H r h _ => ?_
 unfold QbZ at h
 split at h
 ·rename_i x t y z
  split at h
  case h_2 => cases h
  rename_i d hd
  cases h
  refine ⟨rfl, fun H2 => Q1B.args (ps := [.nilp, toA Nl.tx d, .undef, .undef]) ?_ (Q3l (C := Nl.ctx) (vs := [Nl.added, .int .i64 1]) Nl.told_ok Tryz.mix Tryz.func4 (c := Func.code Tryz.f4) (by kernel_rfl) (by kernel_rfl) (ann := .nil) Q1J (by kernel_rfl) (by kernel_rfl) rfl rfl rfl H2)⟩
  intro m μ vs hvs
  match vs, hvs with
  | [v0, v1, v2, v3], ⟨h0, h1, _, _, _⟩ => exact ⟨h0, Q3q hd h1, trivial, trivial, trivial⟩
 ·rename_i t y x z
  split at h
  case h_2 => cases h
  rename_i d hd
  cases h
  refine ⟨rfl, fun H2 => Q1B.args (ps := [.rop .unit (), toA Nl.tx d, .nilp, .undef]) ?_ (Q3l (C := Nl.ctx) (vs := [Nl.added, .int .i64 1]) Nl.told_ok Tryz.mix Tryz.func4 (c := Func.code Tryz.f4) (by kernel_rfl) (by kernel_rfl) (ann := .nil) Q1J (by kernel_rfl) (by kernel_rfl) rfl rfl rfl H2)⟩
  intro m μ vs hvs
  match vs, hvs with
  | [v0, v1, v2, v3], ⟨h0, h1, h2, _, _⟩ => exact ⟨Qck h0, Q3q hd h1, h2, trivial, trivial⟩
 ·cases h
def Qco : Qj := Q2W Qcw
theorem Qdp : Qb Tryz.prog 11 Qco := by
 refine Q3N fun args H r h _ => ?_
 unfold Qcw at h
 split at h
 case h_2 => cases h
 rename_i x t y z
 split at h
 case h_2 => cases h
 rename_i d hd
 cases h
 refine ⟨rfl, fun H2 => Q1B.args (ps := [.nilp, toA Nl.blk d, .undef, .undef]) ?_ (Q3l (C := Nl.ctx) (vs := [.nils]) Nl.told_ok Tryz.mix Tryz.func11 (c := Func.code Tryz.f11) (by kernel_rfl) (by kernel_rfl) (ann := .nil) Q1J (by kernel_rfl) (by kernel_rfl) rfl rfl rfl H2)⟩
 intro m μ vs hvs
 match vs, hvs with
 | [v0, v1, v2, v3], ⟨h0, h1, _, _, _⟩ => exact ⟨h0, Q3q hd h1, trivial, trivial, trivial⟩
def Qcz : Qj := Q2W Qc6
theorem Qdy : Qb Tryz.prog 12 Qcz := by
 refine Q3N fun args H r h _ => ?_
 unfold Qc6 at h
 split at h
 case h_2 => cases h
 cases h
 refine ⟨rfl, fun H2 => Q1B.args (ps := [.nilp, .undef, .undef]) ?_ (Q3l (C := Nl.ctx) (vs := [.nils]) Nl.told_ok Tryz.mix Tryz.func12 (c := Func.code Tryz.f12) (by kernel_rfl) (by kernel_rfl) (ann := .nil) Q1J (by kernel_rfl) (by kernel_rfl) rfl rfl rfl H2)⟩
 intro m μ vs hvs
 match vs, hvs with
 | [v0, v1, v2], ⟨h0, _, _, _⟩ => exact ⟨h0, trivial, trivial, trivial⟩
noncomputable def Nl.fns : List (Nat × Func) := [(7, Tryz.f7)]
theorem Nl.fns_ok : Q3s Tryz.prog Nl.fns := .cons Tryz.func7 (by kernel_rfl) .nil
noncomputable def Nl.ctx2 : Ctx := ⟨Tryz.prog, runH Tryz.prog Nl.told Nl.fns [] 5 5 2⟩
theorem Nl.ctx2_ok : ∀ f, Qb Nl.ctx2.P f (Nl.ctx2.Γ f) := fun f => Q3x Nl.told_ok Tryz.mix Nl.fns_ok 2 f
def Q5C : Qj := Q2W Qch
theorem Qav {f : Nat} (h : ∀ (d : List Int) (H : Heap), Q1B Tryz.prog f [.nilp, toA QeW d] H .nils H) : Qb Tryz.prog f Q5C := by
 refine Q3N fun args H r hr _ => ?_
 unfold Qch at hr
 split at hr
 case h_2 => cases hr
 rename_i x
 split at hr
 case h_2 => cases hr
 rename_i d hd
 cases hr
 refine ⟨rfl, fun H2 => (h d H2).args ?_⟩
 intro m μ vs hvs
 match vs, hvs with
 | [v0, v1], ⟨h0, h1, _⟩ => exact ⟨h0, Q3q hd h1, trivial⟩
theorem Nl.kin16 : Qb Tryz.prog 16 Q5C := Qav fun d H => Q3l (C := Nl.ctx2) (vs := [.nils]) Nl.ctx2_ok Tryz.mix Tryz.func16 (c := Func.code Tryz.f16) (by kernel_rfl) (by kernel_rfl) (ann := .nil) Q1J (by kernel_rfl) (by kernel_rfl) rfl rfl rfl H
theorem Nl.kin17 : Qb Tryz.prog 17 Q5C := Qav fun d H => Q3l (C := Nl.ctx2) (vs := [.nils]) Nl.ctx2_ok Tryz.mix Tryz.func17 (c := Func.code Tryz.f17) (by kernel_rfl) (by kernel_rfl) (ann := .nil) Q1J (by kernel_rfl) (by kernel_rfl) rfl rfl rfl H
theorem Nl.kin18 : Qb Tryz.prog 18 Q5C := Qav fun d H => Q3l (C := Nl.ctx2) (vs := [.nils]) Nl.ctx2_ok Tryz.mix Tryz.func18 (c := Func.code Tryz.f18) (by kernel_rfl) (by kernel_rfl) (ann := .nil) Q1J (by kernel_rfl) (by kernel_rfl) rfl rfl rfl H
end Go.Am
