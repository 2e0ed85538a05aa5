/- A part of a proof: a machine of abstract values that tells what functions of the program compute, and the plain facts on them. -/
import Derived.Test.YtefnfbhgjfkijaaGreatAm12
import Derived.Test.YtefnfbhgjfkijaaGreatAm7
import Derived.KernelRfl
set_option linter.unusedVariables false
set_option linter.unusedSimpArgs false
set_option linter.unnecessarySimpa false
set_option linter.unusedSectionVars false
namespace Go.Am
abbrev Qdk : Type := ((List ((Int × (ByteArray × Unit)) × (Int × (Bool × Unit)))) × Unit)
abbrev Qdj : Ty := (.pair (.sl (.pair (.pair (.int .u64) (.pair .str .unit)) (.pair (.int .i64) (.pair .bool .unit)))) .unit)
abbrev Qdi : Type := ((Int × ((List Int) × ((List Int) × (Int × (Int × (Int × Unit)))))) × ((List (Int × ((List (((List Int) × (Int × Unit)) × (ByteArray × (Int × Unit)))) × ((List (Int × (ByteArray × Unit))) × (Int × Unit))))) × Unit))
abbrev Qdh : Ty := (.pair (.pair (.int .u32) (.pair (.arr 32 (.int .u8)) (.pair (.arr 32 (.int .u8)) (.pair (.int .u32) (.pair (.int .u32) (.pair (.int .u32) .unit)))))) (.pair (.sl (.pair (.int .u32) (.pair (.sl (.pair (.pair (.arr 32 (.int .u8)) (.pair (.int .u32) .unit)) (.pair .str (.pair (.int .u32) .unit)))) (.pair (.sl (.pair (.int .u64) (.pair .str .unit))) (.pair (.int .u32) .unit))))) .unit))
end Go.Am
namespace Go.Am
open Go Go.Proofs
set_option maxRecDepth 100000
def Run.gen0 : dens Q00.tout := (((1, ([0, 0, 0, 0, 0, 0, 0, 0, 0, 0, 0, 0, 0, 0, 0, 0, 0, 0, 0, 0, 0, 0, 0, 0, 0, 0, 0, 0, 0, 0, 0, 0], ([113, 204, 51, 115, 232, 45, 155, 36, 155, 134, 11, 93, 43, 105, 61, 93, 163, 17, 221, 217, 44, 202, 254, 63, 129, 214, 200, 191, 249, 149, 82, 226], (1600000000, (545259519, (1, ())))))), ([(1, ([(([0, 0, 0, 0, 0, 0, 0, 0, 0, 0, 0, 0, 0, 0, 0, 0, 0, 0, 0, 0, 0, 0, 0, 0, 0, 0, 0, 0, 0, 0, 0, 0], (4294967295, ())), (⟨List.toArray [0, 0, 0, 0, 98, 101, 100, 114, 111, 99, 107]⟩, (4294967295, ())))], ([(5000, (⟨List.toArray []⟩, ()))], (0, ()))))], ())), ())
def Run.hdr0 : (Int × List Int × List Int × Int × Int × Int × Unit) := (1, ([0, 0, 0, 0, 0, 0, 0, 0, 0, 0, 0, 0, 0, 0, 0, 0, 0, 0, 0, 0, 0, 0, 0, 0, 0, 0, 0, 0, 0, 0, 0, 0], ([113, 204, 51, 115, 232, 45, 155, 36, 155, 134, 11, 93, 43, 105, 61, 93, 163, 17, 221, 217, 44, 202, 254, 63, 129, 214, 200, 191, 249, 149, 82, 226], (1600000000, (545259519, (1, ()))))))
def Run.id0 : List Int := [241, 135, 212, 169, 168, 254, 156, 207, 249, 187, 137, 185, 194, 139, 194, 134, 119, 138, 238, 31, 164, 82, 73, 164, 143, 38, 180, 66, 229, 50, 163, 21]
def Run.root0 : List Int := [79, 204, 233, 113, 160, 169, 177, 77, 215, 191, 156, 199, 186, 222, 4, 19, 35, 109, 25, 162, 64, 46, 222, 118, 255, 89, 24, 239, 51, 255, 22, 86]
def Run.tx0 : (Int × List ((List Int × Int × Unit) × ByteArray × Int × Unit) × List (Int × ByteArray × Unit) × Int × Unit) := (1, ([(([0, 0, 0, 0, 0, 0, 0, 0, 0, 0, 0, 0, 0, 0, 0, 0, 0, 0, 0, 0, 0, 0, 0, 0, 0, 0, 0, 0, 0, 0, 0, 0], (4294967295, ())), (⟨List.toArray [1, 0, 0, 0]⟩, (4294967295, ())))], ([(7, (⟨List.toArray []⟩, ()))], (0, ()))))
def Run.hdr1 : (Int × List Int × List Int × Int × Int × Int × Unit) := (0, Run.id0, Run.root0, 0, 0, 0, ())
def Run.id1 : List Int := [25, 255, 10, 244, 128, 187, 51, 248, 53, 167, 31, 114, 42, 86, 151, 231, 177, 158, 188, 84, 198, 150, 138, 120, 159, 25, 233, 131, 45, 5, 133, 70]
theorem Run.e45_0 : (fun x => Q00 140737488355328 ) () = some Run.gen0 := by kernel_rfl
theorem Run.q45_1 : Qh Tryz.prog 45 (Qt Q00.tin Q00.tout (Q2j Q00.tin Q00.tout () Run.gen0 (fun x => Q00 140737488355328 ))) := Q4p (x0 := ()) (y0 := Run.gen0) (tin := Q00.tin) (tout := Q00.tout) (J := fun x => Q00 140737488355328 ) Run.e45_0 (Q00.sem_ok 140737488355328)
def Run.s45 : Qp := Qt Q00.tin Q00.tout (Q2j Q00.tin Q00.tout () Run.gen0 (fun x => Q00 140737488355328 ))
theorem Run.m45 : Qh Tryz.prog 45 Run.s45 := Run.q45_1
theorem Run.e20_0 : (fun x => Q0o 140737488355328 x.1) (Run.hdr0, ()) = some (Run.id0, ()) := by kernel_rfl
theorem Run.q20_1 : Qh Tryz.prog 20 (Qt Q0o.tin Q0o.tout (Q2j Q0o.tin Q0o.tout (Run.hdr0, ()) (Run.id0, ()) (fun x => Q0o 140737488355328 x.1))) := Q4p (x0 := (Run.hdr0, ())) (y0 := (Run.id0, ())) (tin := Q0o.tin) (tout := Q0o.tout) (J := fun x => Q0o 140737488355328 x.1) Run.e20_0 (Q0o.sem_ok 140737488355328)
theorem Run.e20_1 : (Q2j Q0o.tin Q0o.tout (Run.hdr0, ()) (Run.id0, ()) (fun x => Q0o 140737488355328 x.1)) (Run.hdr1, ()) = some (Run.id1, ()) := by kernel_rfl
theorem Run.q20_2 : Qh Tryz.prog 20 (Qt Q0o.tin Q0o.tout (Q2j Q0o.tin Q0o.tout (Run.hdr1, ()) (Run.id1, ()) (Q2j Q0o.tin Q0o.tout (Run.hdr0, ()) (Run.id0, ()) (fun x => Q0o 140737488355328 x.1)))) := Q4p (x0 := (Run.hdr1, ())) (y0 := (Run.id1, ())) (tin := Q0o.tin) (tout := Q0o.tout) (J := Q2j Q0o.tin Q0o.tout (Run.hdr0, ()) (Run.id0, ()) (fun x => Q0o 140737488355328 x.1)) Run.e20_1 (Run.q20_1)
def Run.s20 : Qp := Qt Q0o.tin Q0o.tout (Q2j Q0o.tin Q0o.tout (Run.hdr1, ()) (Run.id1, ()) (Q2j Q0o.tin Q0o.tout (Run.hdr0, ()) (Run.id0, ()) (fun x => Q0o 140737488355328 x.1)))
theorem Run.m20 : Qh Tryz.prog 20 Run.s20 := Run.q20_2
theorem Run.q22_0 : Qh Tryz.prog 22 (Qt Qk.tin Qk.tout (fun x => Qk 140737488355328 x.1 x.2.1 x.2.2.1)) := Qk.sem_ok 140737488355328
def Run.s22 : Qp := Q7d Qk.tin Qk.tout (fun x => Qk 140737488355328 x.1 x.2.1 x.2.2.1)
theorem Run.m22 : Qh Tryz.prog 22 Run.s22 := Q5K Run.q22_0
theorem Run.e23_0 : (fun x => Qx 140737488355328 x.1) ([Run.tx0], ()) = some (Run.root0, false, ()) := by kernel_rfl
theorem Run.q23_1 : Qh Tryz.prog 23 (Qt Qx.tin Qx.tout (Q2j Qx.tin Qx.tout ([Run.tx0], ()) (Run.root0, false, ()) (fun x => Qx 140737488355328 x.1))) := Q4p (x0 := ([Run.tx0], ())) (y0 := (Run.root0, false, ())) (tin := Qx.tin) (tout := Qx.tout) (J := fun x => Qx 140737488355328 x.1) Run.e23_0 (Qx.sem_ok 140737488355328)
def Run.s23 : Qp := Qt Qx.tin Qx.tout (Q2j Qx.tin Qx.tout ([Run.tx0], ()) (Run.root0, false, ()) (fun x => Qx 140737488355328 x.1))
theorem Run.m23 : Qh Tryz.prog 23 Run.s23 := Run.q23_1
theorem Run.e47_0 : (fun x => Q1f 140737488355328 x.1) (Run.tx0, ()) = some (Run.root0, 0, ()) := by kernel_rfl
theorem Run.q47_1 : Qh Tryz.prog 47 (Qt Q1f.tin Q1f.tout (Q2j Q1f.tin Q1f.tout (Run.tx0, ()) (Run.root0, 0, ()) (fun x => Q1f 140737488355328 x.1))) := Q4p (x0 := (Run.tx0, ())) (y0 := (Run.root0, 0, ())) (tin := Q1f.tin) (tout := Q1f.tout) (J := fun x => Q1f 140737488355328 x.1) Run.e47_0 (Q1f.sem_ok 140737488355328)
def Run.s47 : Qp := Qt Q1f.tin Q1f.tout (Q2j Q1f.tin Q1f.tout (Run.tx0, ()) (Run.root0, 0, ()) (fun x => Q1f 140737488355328 x.1))
theorem Run.m47 : Qh Tryz.prog 47 Run.s47 := Run.q47_1
theorem Run.q49_0 : Qh Tryz.prog 49 (Qt Q0m.tin Q0m.tout (fun x => Q0m 140737488355328 x.1 x.2.1)) := Q0m.sem_ok 140737488355328
def Run.s49 : Qp := Qt Q0m.tin Q0m.tout (fun x => Q0m 140737488355328 x.1 x.2.1)
theorem Run.m49 : Qh Tryz.prog 49 Run.s49 := Run.q49_0
theorem Run.q80_0 : Qh Tryz.prog 80 (Qt Qo.tin Qo.tout (fun x => Qo 140737488355328 x.1 x.2.1 x.2.2.1)) := Qo.sem_ok 140737488355328
def Run.s80 : Qp := Qt Qo.tin Qo.tout (fun x => Qo 140737488355328 x.1 x.2.1 x.2.2.1)
theorem Run.m80 : Qh Tryz.prog 80 Run.s80 := Run.q80_0
theorem Run.q50_0 : Qh Tryz.prog 50 (Qt Q0T.tin Q0T.tout (fun x => Q0T 140737488355328 x.1)) := Q0T.sem_ok 140737488355328
def Run.s50 : Qp := Qt Q0T.tin Q0T.tout (fun x => Q0T 140737488355328 x.1)
theorem Run.m50 : Qh Tryz.prog 50 Run.s50 := Run.q50_0
theorem Run.q42_0 : Qh Tryz.prog 42 (Qt Q0B.tin Q0B.tout (fun x => Q0B 140737488355328 x.1)) := Q0B.sem_ok 140737488355328
def Run.s42 : Qp := Qt Q0B.tin Q0B.tout (fun x => Q0B 140737488355328 x.1)
theorem Run.m42 : Qh Tryz.prog 42 Run.s42 := Run.q42_0
theorem Run.q43_0 : Qh Tryz.prog 43 (Qt Q0u.tin Q0u.tout (fun x => Q0u 140737488355328 x.1)) := Q0u.sem_ok 140737488355328
def Run.s43 : Qp := Qt Q0u.tin Q0u.tout (fun x => Q0u 140737488355328 x.1)
theorem Run.m43 : Qh Tryz.prog 43 Run.s43 := Run.q43_0
theorem Run.q40_0 : Qh Tryz.prog 40 (Qt Q0v.tin Q0v.tout (fun x => Q0v 140737488355328 x.1)) := Q0v.sem_ok 140737488355328
def Run.s40 : Qp := Qt Q0v.tin Q0v.tout (fun x => Q0v 140737488355328 x.1)
theorem Run.m40 : Qh Tryz.prog 40 Run.s40 := Run.q40_0
theorem Run.e39_0 : (fun x => Q0l 140737488355328 x.1) ((Run.hdr1, [Run.tx0], ()), ()) = some (0, ()) := by kernel_rfl
theorem Run.q39_1 : Qh Tryz.prog 39 (Qt Q0l.tin Q0l.tout (Q2j Q0l.tin Q0l.tout ((Run.hdr1, [Run.tx0], ()), ()) (0, ()) (fun x => Q0l 140737488355328 x.1))) := Q4p (x0 := ((Run.hdr1, [Run.tx0], ()), ())) (y0 := (0, ())) (tin := Q0l.tin) (tout := Q0l.tout) (J := fun x => Q0l 140737488355328 x.1) Run.e39_0 (Q0l.sem_ok 140737488355328)
def Run.s39 : Qp := Qt Q0l.tin Q0l.tout (Q2j Q0l.tin Q0l.tout ((Run.hdr1, [Run.tx0], ()), ()) (0, ()) (fun x => Q0l 140737488355328 x.1))
theorem Run.m39 : Qh Tryz.prog 39 Run.s39 := Run.q39_1
def Q01.run.told (k : Nat) : List (Nat × Qp) := [(45, (Run.s45 )), (20, (Run.s20 )), (22, (Run.s22 )), (23, (Run.s23 )), (47, (Run.s47 )), (49, (Run.s49 )), (80, (Run.s80 )), (50, (Run.s50 )), (42, (Run.s42 )), (43, (Run.s43 )), (40, (Run.s40 )), (39, (Run.s39 ))]
noncomputable def Q01.run.fns : List (Nat × Func) := [(4, Tryz.f4), (6, Tryz.f6), (7, Tryz.f7), (10, Tryz.f10), (11, Tryz.f11), (17, Tryz.f17), (18, Tryz.f18), (19, Tryz.f19), (21, Tryz.f21), (41, Tryz.f41), (81, Tryz.f81), (82, Tryz.f82)]
theorem Q01.run.told_ok (k : Nat) : ∀ f, Qh Tryz.prog f (gam (Q01.run.told k) f) := (Qf (Run.m45) (Qf (Run.m20) (Qf (Run.m22) (Qf (Run.m23) (Qf (Run.m47) (Qf (Run.m49) (Qf (Run.m80) (Qf (Run.m50) (Qf (Run.m42) (Qf (Run.m43) (Qf (Run.m40) (Qf (Run.m39) QO))))))))))))
theorem Q01.run.fns_ok : Q4P Tryz.prog Q01.run.fns := (.cons Tryz.func4 (by kernel_rfl) (.cons Tryz.func6 (by kernel_rfl) (.cons Tryz.func7 (by kernel_rfl) (.cons Tryz.func10 (by kernel_rfl) (.cons Tryz.func11 (by kernel_rfl) (.cons Tryz.func17 (by kernel_rfl) (.cons Tryz.func18 (by kernel_rfl) (.cons Tryz.func19 (by kernel_rfl) (.cons Tryz.func21 (by kernel_rfl) (.cons Tryz.func41 (by kernel_rfl) (.cons Tryz.func81 (by kernel_rfl) (.cons Tryz.func82 (by kernel_rfl) .nil))))))))))))
def Q01.run.rds : List Nat := []
noncomputable def Q01.run.ctx (k : Nat) : Ctx := ⟨Tryz.prog, runH Tryz.prog (Q01.run.told k) Q01.run.fns Q01.run.rds 20 60 8⟩
def Q01 (_ : Nat) : Option (Bool × Unit) := some (true, ())
def Q01.tin : List Ty := []
def Q01.tout : List Ty := [.bool]
def Q01.sem (k : Nat) : Qp := Qt Q01.tin Q01.tout fun _ => Q01 k
theorem Q01.run.body {ρ : Type} (K : dens [Ty.bool] → Option ρ) : evC (Q01.run.ctx 140737488355328) (Func.code Tryz.f8) (annF (Q01.run.ctx 140737488355328) 20 60 (Func.code Tryz.f8)) (Q3e Tryz.f8.ntmps []) (finK Tryz.prog Tryz.f8.results.toList [.bool] K) = K (true, ()) := by kernel_rfl
theorem Q01.sem_ok (k : Nat) : Qh Tryz.prog 8 (Q01.sem k) :=
 QaC (deep := 60) (n := 8) (fuel := 20) (rds := Q01.run.rds) (Q01.run.told_ok 140737488355328) Tryz.mix Q01.run.fns_ok Tryz.func8 (by kernel_rfl) (by kernel_rfl) (fun K => Q01.run.body K)
end Go.Am
namespace Go.Am
open Go Go.Proofs
set_option maxRecDepth 100000
abbrev Qu.τ : Type := (Qdk × Int × Unit)
def Qu.c (k : Nat) {ρ : Type} (b : Qdi) (height : Int) (K : Qu.τ → Option ρ) : Option ρ :=
 K (([], ()), ((1 : Int), ()))
def Qu (k : Nat) (b : Qdi) (height : Int) : Option Qu.τ := Qu.c k b height some
def Qu.T : Q1a := ⟨[.nilp, .dat Qdh, .dat (.int .i64)], [], 0⟩
def Qu.os : List Out := [⟨.ret, [.freeze (.slot 0), .freeze (.slot 1), .auto 0], ⟨[.dat Qdj, .dat (.int .i64)], []⟩⟩]
def Qu.sem (k : Nat) : Qp := Q1g Qu.T Qu.os fun x => Qu k x.1 x.2.1
noncomputable def Qu.ctx (k : Nat) : Ctx := ⟨Tryz.prog, gam []⟩
theorem Qu.gok (k : Nat) : ∀ f, Qh Tryz.prog f ((Qu.ctx k).Γ f) := QO
def Qu.ann (k : Nat) : Ann := .nil
theorem Qu.body (k : Nat) : Q1m (Qu.ctx k) Tryz.f4 (Func.code Tryz.f4) (Qu.ann k) Qu.T Qu.os (fun x K => Qu.c k x.1 x.2.1 K) := by
 intro ρ x K; kernel_rfl
theorem Qu.sem_ok (k : Nat) : Qh Tryz.prog 4 (Qu.sem k) :=
 Q0S (C := Qu.ctx k) (Qu.gok k) Tryz.mix (c := Func.code Tryz.f4) (ann := Qu.ann k) (T := Qu.T) (os := Qu.os) (fun x K => Qu.c k x.1 x.2.1 K) Tryz.func4 (by kernel_rfl) (by kernel_rfl) Q0.nil (Qu.body k) (by kernel_rfl) (by kernel_rfl) (by kernel_rfl)
abbrev QH.τ : Type := (Int × Int × Int × Unit)
def QH.c (k : Nat) {ρ : Type} (b : Qdi) (height : Int) (K : QH.τ → Option ρ) : Option ρ :=
 K ((0 : Int), ((0 : Int), ((1 : Int), ())))
def QH (k : Nat) (b : Qdi) (height : Int) : Option QH.τ := QH.c k b height some
def QH.T : Q1a := ⟨[.nilp, .dat Qdh, .dat (.int .i64)], [], 0⟩
def QH.os : List Out := [⟨.ret, [.freeze (.slot 0), .freeze (.slot 1), .freeze (.slot 2), .auto 0], ⟨[.dat (.int .u64), .dat (.int .i64), .dat (.int .i64)], []⟩⟩]
def QH.sem (k : Nat) : Qp := Q1g QH.T QH.os fun x => QH k x.1 x.2.1
noncomputable def QH.ctx (k : Nat) : Ctx := ⟨Tryz.prog, gam []⟩
theorem QH.gok (k : Nat) : ∀ f, Qh Tryz.prog f ((QH.ctx k).Γ f) := QO
def QH.ann (k : Nat) : Ann := .nil
theorem QH.body (k : Nat) : Q1m (QH.ctx k) Tryz.f5 (Func.code Tryz.f5) (QH.ann k) QH.T QH.os (fun x K => QH.c k x.1 x.2.1 K) := by
 intro ρ x K; kernel_rfl
theorem QH.sem_ok (k : Nat) : Qh Tryz.prog 5 (QH.sem k) :=
 Q0S (C := QH.ctx k) (QH.gok k) Tryz.mix (c := Func.code Tryz.f5) (ann := QH.ann k) (T := QH.T) (os := QH.os) (fun x K => QH.c k x.1 x.2.1 K) Tryz.func5 (by kernel_rfl) (by kernel_rfl) Q0.nil (QH.body k) (by kernel_rfl) (by kernel_rfl) (by kernel_rfl)
abbrev QS.τ : Type := (((Int × (ByteArray × Unit)) × (Int × (Bool × Unit))) × Bool × Unit)
def QS.c (k : Nat) {ρ : Type} (p : ((List Int) × (Int × Unit))) (K : QS.τ → Option ρ) : Option ρ :=
 K ((((0 : Int), ((⟨(List.toArray [])⟩ : ByteArray), ())), ((0 : Int), (false, ()))), (false, ()))
def QS (k : Nat) (p : ((List Int) × (Int × Unit))) : Option QS.τ := QS.c k p some
def QS.T : Q1a := ⟨[.nilp, .dat (.pair (.arr 32 (.int .u8)) (.pair (.int .u32) .unit))], [], 0⟩
def QS.os : List Out := [⟨.ret, [.freeze (.slot 0), .freeze (.slot 1), .auto 0], ⟨[.dat (.pair (.pair (.int .u64) (.pair .str .unit)) (.pair (.int .i64) (.pair .bool .unit))), .dat .bool], []⟩⟩]
def QS.sem (k : Nat) : Qp := Q1g QS.T QS.os fun x => QS k x.1
noncomputable def QS.ctx (k : Nat) : Ctx := ⟨Tryz.prog, gam []⟩
theorem QS.gok (k : Nat) : ∀ f, Qh Tryz.prog f ((QS.ctx k).Γ f) := QO
def QS.ann (k : Nat) : Ann := .nil
theorem QS.body (k : Nat) : Q1m (QS.ctx k) Tryz.f6 (Func.code Tryz.f6) (QS.ann k) QS.T QS.os (fun x K => QS.c k x.1 K) := by
 intro ρ x K; kernel_rfl
theorem QS.sem_ok (k : Nat) : Qh Tryz.prog 6 (QS.sem k) :=
 Q0S (C := QS.ctx k) (QS.gok k) Tryz.mix (c := Func.code Tryz.f6) (ann := QS.ann k) (T := QS.T) (os := QS.os) (fun x K => QS.c k x.1 K) Tryz.func6 (by kernel_rfl) (by kernel_rfl) Q0.nil (QS.body k) (by kernel_rfl) (by kernel_rfl) (by kernel_rfl)
abbrev QT.τ : Type := ((List Int) × Int × Unit)
def QT.c (k : Nat) {ρ : Type}  (K : QT.τ → Option ρ) : Option ρ :=
 let v0 : (List Int) := (List.replicate 32 (0 : Int))
 K (v0, ((0 : Int), ()))
def QT (k : Nat)  : Option QT.τ := QT.c k  some
def QT.T : Q1a := ⟨[.nilp], [], 0⟩
def QT.os : List Out := [⟨.ret, [.freeze (.slot 0), .freeze (.slot 1), .auto 0], ⟨[.dat (.arr 32 (.int .u8)), .dat (.int .i64)], []⟩⟩]
def QT.sem (k : Nat) : Qp := Q1g QT.T QT.os fun x => QT k 
noncomputable def QT.ctx (k : Nat) : Ctx := ⟨Tryz.prog, gam []⟩
theorem QT.gok (k : Nat) : ∀ f, Qh Tryz.prog f ((QT.ctx k).Γ f) := QO
def QT.ann (k : Nat) : Ann := .nil
theorem QT.body (k : Nat) : Q1m (QT.ctx k) Tryz.f7 (Func.code Tryz.f7) (QT.ann k) QT.T QT.os (fun x K => QT.c k  K) := by
 intro ρ x K; kernel_rfl
theorem QT.sem_ok (k : Nat) : Qh Tryz.prog 7 (QT.sem k) :=
 Q0S (C := QT.ctx k) (QT.gok k) Tryz.mix (c := Func.code Tryz.f7) (ann := QT.ann k) (T := QT.T) (os := QT.os) (fun x K => QT.c k  K) Tryz.func7 (by kernel_rfl) (by kernel_rfl) Q0.nil (QT.body k) (by kernel_rfl) (by kernel_rfl) (by kernel_rfl)
abbrev Q6.p0.σ : Type := Int × Qdi × Qdk × Unit
abbrev Q6.p0.τ : Type := (Int × Unit)
def Q6.p0.r (k : Nat) {ρ : Type} (x : Q6.p0.σ) (K : Q6.p0.τ → Option ρ) : Option ρ :=
 K ((1 : Int), ())
def Q6.p0 (k : Nat) (x : Q6.p0.σ) : Option Q6.p0.τ := Q6.p0.r k x some
def Q6.p0.T : StT := ⟨.nilp :: us 2 ++ .dat (.int .i64) :: us 1 ++ .ptr 0 [] :: .ptr 1 [] :: us 90, [.dat Qdh, .dat Qdj]⟩
def Q6.p0.os : List Out := [⟨.ret, [.mask [8], .auto 0], ⟨us 8 ++ .dat (.int .i64) :: us 88, []⟩⟩]
abbrev Q6.τ : Type := (Int × Unit)
def Q6.c (k : Nat) {ρ : Type} (b : Qdi) (u : Qdk) (height : Int) (K : Q6.τ → Option ρ) : Option ρ :=
 (Q6.p0 k (height, (((b.1.1, (b.1.2.1, (b.1.2.2.1, (b.1.2.2.2.1, (b.1.2.2.2.2.1, (b.1.2.2.2.2.2.1, ())))))), (b.2.1, ())), ((u.1, ()), ())))).bind fun t0 => K (t0.1, ())
def Q6 (k : Nat) (b : Qdi) (u : Qdk) (height : Int) : Option Q6.τ := Q6.c k b u height some
def Q6.T : Q1a := ⟨[.nilp, .dat Qdh, .dat Qdj, .dat (.int .i64)], [], 0⟩
def Q6.os : List Out := [⟨.ret, [.freeze (.slot 0), .auto 0], ⟨[.dat (.int .i64)], []⟩⟩]
def Q6.sem (k : Nat) : Qp := Q1g Q6.T Q6.os fun x => Q6 k x.1 x.2.1 x.2.2.1
noncomputable def Q6.ctx (k : Nat) : Ctx := ⟨Tryz.prog, gam []⟩
theorem Q6.gok (k : Nat) : ∀ f, Qh Tryz.prog f ((Q6.ctx k).Γ f) := QO
theorem Q6.p0.is (k : Nat) : Q3g (Q6.ctx k) (Q08 (Func.code Tryz.f9) [1, 0]) (.nil) Q6.p0.T Q6.p0.os (Q6.p0.r k) := by
 intro ρ x K; kernel_rfl
theorem Q6.p0.ok (k : Nat) : StOK 0 Tryz.prog (Q08 (Func.code Tryz.f9) [1, 0]) (Qr Q6.p0.T Q6.p0.os (Q6.p0 k)) :=
 Q2U (C := Q6.ctx k) (T := Q6.p0.T) (os := Q6.p0.os) (Q6.gok k) Tryz.mix (fun x K => Q6.p0.r k x K) Q0.nil (by kernel_rfl) (by kernel_rfl) (Q6.p0.is k)
def Q6.ann (k : Nat) : Ann := .node [] none (.nil) (.node [] none (.node [.mask [0, 3, 5, 6], .auto 0] (some (Qr Q6.p0.T Q6.p0.os (Q6.p0 k))) .nil .nil) (.nil))
theorem Q6.body (k : Nat) : Q1m (Q6.ctx k) Tryz.f9 (Func.code Tryz.f9) (Q6.ann k) Q6.T Q6.os (fun x K => Q6.c k x.1 x.2.1 x.2.2.1 K) := by
 intro ρ x K; kernel_rfl
theorem Q6.sem_ok (k : Nat) : Qh Tryz.prog 9 (Q6.sem k) :=
 Q0S (C := Q6.ctx k) (Q6.gok k) Tryz.mix (c := Func.code Tryz.f9) (ann := Q6.ann k) (T := Q6.T) (os := Q6.os) (fun x K => Q6.c k x.1 x.2.1 x.2.2.1 K) Tryz.func9 (by kernel_rfl) (by kernel_rfl) (Q0.seq Q0.nil (Q0.seq (Q0.loop (by kernel_rfl) (Q6.p0.ok k)) Q0.nil)) (Q6.body k) (by kernel_rfl) (by kernel_rfl) (by kernel_rfl)
abbrev QU.τ : Type := (Int × Unit)
def QU.c (k : Nat) {ρ : Type}  (K : QU.τ → Option ρ) : Option ρ :=
 K ((0 : Int), ())
def QU (k : Nat)  : Option QU.τ := QU.c k  some
def QU.T : Q1a := ⟨[.nilp], [], 0⟩
def QU.os : List Out := [⟨.ret, [.freeze (.slot 0), .auto 0], ⟨[.dat (.int .i64)], []⟩⟩]
def QU.sem (k : Nat) : Qp := Q1g QU.T QU.os fun x => QU k 
noncomputable def QU.ctx (k : Nat) : Ctx := ⟨Tryz.prog, gam []⟩
theorem QU.gok (k : Nat) : ∀ f, Qh Tryz.prog f ((QU.ctx k).Γ f) := QO
def QU.ann (k : Nat) : Ann := .nil
theorem QU.body (k : Nat) : Q1m (QU.ctx k) Tryz.f10 (Func.code Tryz.f10) (QU.ann k) QU.T QU.os (fun x K => QU.c k  K) := by
 intro ρ x K; kernel_rfl
theorem QU.sem_ok (k : Nat) : Qh Tryz.prog 10 (QU.sem k) :=
 Q0S (C := QU.ctx k) (QU.gok k) Tryz.mix (c := Func.code Tryz.f10) (ann := QU.ann k) (T := QU.T) (os := QU.os) (fun x K => QU.c k  K) Tryz.func10 (by kernel_rfl) (by kernel_rfl) Q0.nil (QU.body k) (by kernel_rfl) (by kernel_rfl) (by kernel_rfl)
abbrev QE.τ : Type := (Int × Unit)
def QE.c (k : Nat) {ρ : Type}  (K : QE.τ → Option ρ) : Option ρ :=
 K ((0 : Int), ())
def QE (k : Nat)  : Option QE.τ := QE.c k  some
def QE.T : Q1a := ⟨[.nilp], [], 0⟩
def QE.os : List Out := [⟨.ret, [.freeze (.slot 0), .auto 0], ⟨[.dat (.int .u64)], []⟩⟩]
def QE.sem (k : Nat) : Qp := Q1g QE.T QE.os fun x => QE k 
noncomputable def QE.ctx (k : Nat) : Ctx := ⟨Tryz.prog, gam []⟩
theorem QE.gok (k : Nat) : ∀ f, Qh Tryz.prog f ((QE.ctx k).Γ f) := QO
def QE.ann (k : Nat) : Ann := .nil
theorem QE.body (k : Nat) : Q1m (QE.ctx k) Tryz.f11 (Func.code Tryz.f11) (QE.ann k) QE.T QE.os (fun x K => QE.c k  K) := by
 intro ρ x K; kernel_rfl
theorem QE.sem_ok (k : Nat) : Qh Tryz.prog 11 (QE.sem k) :=
 Q0S (C := QE.ctx k) (QE.gok k) Tryz.mix (c := Func.code Tryz.f11) (ann := QE.ann k) (T := QE.T) (os := QE.os) (fun x K => QE.c k  K) Tryz.func11 (by kernel_rfl) (by kernel_rfl) Q0.nil (QE.body k) (by kernel_rfl) (by kernel_rfl) (by kernel_rfl)
abbrev QQ.τ : Type := ((List ((List Int) × (Int × Unit))) × Unit)
def QQ.c (k : Nat) {ρ : Type}  (K : QQ.τ → Option ρ) : Option ρ :=
 K ([], ())
def QQ (k : Nat)  : Option QQ.τ := QQ.c k  some
def QQ.T : Q1a := ⟨[.nilp], [], 0⟩
def QQ.os : List Out := [⟨.ret, [.freeze (.slot 0), .auto 0], ⟨[.dat (.sl (.pair (.arr 32 (.int .u8)) (.pair (.int .u32) .unit)))], []⟩⟩]
def QQ.sem (k : Nat) : Qp := Q1g QQ.T QQ.os fun x => QQ k 
noncomputable def QQ.ctx (k : Nat) : Ctx := ⟨Tryz.prog, gam []⟩
theorem QQ.gok (k : Nat) : ∀ f, Qh Tryz.prog f ((QQ.ctx k).Γ f) := QO
def QQ.ann (k : Nat) : Ann := .nil
theorem QQ.body (k : Nat) : Q1m (QQ.ctx k) Tryz.f12 (Func.code Tryz.f12) (QQ.ann k) QQ.T QQ.os (fun x K => QQ.c k  K) := by
 intro ρ x K; kernel_rfl
theorem QQ.sem_ok (k : Nat) : Qh Tryz.prog 12 (QQ.sem k) :=
 Q0S (C := QQ.ctx k) (QQ.gok k) Tryz.mix (c := Func.code Tryz.f12) (ann := QQ.ann k) (T := QQ.T) (os := QQ.os) (fun x K => QQ.c k  K) Tryz.func12 (by kernel_rfl) (by kernel_rfl) Q0.nil (QQ.body k) (by kernel_rfl) (by kernel_rfl) (by kernel_rfl)
abbrev Qw.τ : Type := (ByteArray × Unit)
def Qw.c (k : Nat) {ρ : Type}  (K : Qw.τ → Option ρ) : Option ρ :=
 K ((⟨(List.toArray [])⟩ : ByteArray), ())
def Qw (k : Nat)  : Option Qw.τ := Qw.c k  some
def Qw.T : Q1a := ⟨[.nilp], [], 0⟩
def Qw.os : List Out := [⟨.ret, [.freeze (.slot 0), .auto 0], ⟨[.dat .str], []⟩⟩]
def Qw.sem (k : Nat) : Qp := Q1g Qw.T Qw.os fun x => Qw k 
noncomputable def Qw.ctx (k : Nat) : Ctx := ⟨Tryz.prog, gam []⟩
theorem Qw.gok (k : Nat) : ∀ f, Qh Tryz.prog f ((Qw.ctx k).Γ f) := QO
def Qw.ann (k : Nat) : Ann := .nil
theorem Qw.body (k : Nat) : Q1m (Qw.ctx k) Tryz.f13 (Func.code Tryz.f13) (Qw.ann k) Qw.T Qw.os (fun x K => Qw.c k  K) := by
 intro ρ x K; kernel_rfl
theorem Qw.sem_ok (k : Nat) : Qh Tryz.prog 13 (Qw.sem k) :=
 Q0S (C := Qw.ctx k) (Qw.gok k) Tryz.mix (c := Func.code Tryz.f13) (ann := Qw.ann k) (T := Qw.T) (os := Qw.os) (fun x K => Qw.c k  K) Tryz.func13 (by kernel_rfl) (by kernel_rfl) Q0.nil (Qw.body k) (by kernel_rfl) (by kernel_rfl) (by kernel_rfl)
abbrev QR.τ : Type := ((List Int) × Unit)
def QR.c (k : Nat) {ρ : Type}  (K : QR.τ → Option ρ) : Option ρ :=
 (Qw k ).bind fun t0 => (Q0J k t0.1).bind fun t1 => K (t1.1, ())
def QR (k : Nat)  : Option QR.τ := QR.c k  some
def QR.T : Q1a := ⟨[.nilp], [], 0⟩
def QR.os : List Out := [⟨.ret, [.freeze (.slot 0), .auto 0], ⟨[.dat (.arr 32 (.int .u8))], []⟩⟩]
def QR.sem (k : Nat) : Qp := Q1g QR.T QR.os fun x => QR k 
noncomputable def QR.ctx (k : Nat) : Ctx := ⟨Tryz.prog, gam [(13, (Qw.sem k)), (36, (Q0J.sem k))]⟩
theorem QR.gok (k : Nat) : ∀ f, Qh Tryz.prog f ((QR.ctx k).Γ f) := (Qf (Qw.sem_ok k) (Qf (Q0J.sem_ok k) QO))
def QR.ann (k : Nat) : Ann := .nil
theorem QR.body (k : Nat) : Q1m (QR.ctx k) Tryz.f14 (Func.code Tryz.f14) (QR.ann k) QR.T QR.os (fun x K => QR.c k  K) := by
 intro ρ x K; kernel_rfl
theorem QR.sem_ok (k : Nat) : Qh Tryz.prog 14 (QR.sem k) :=
 Q0S (C := QR.ctx k) (QR.gok k) Tryz.mix (c := Func.code Tryz.f14) (ann := QR.ann k) (T := QR.T) (os := QR.os) (fun x K => QR.c k  K) Tryz.func14 (by kernel_rfl) (by kernel_rfl) Q0.nil (QR.body k) (by kernel_rfl) (by kernel_rfl) (by kernel_rfl)
abbrev QF.τ : Type := (Unit)
def QF.c (k : Nat) {ρ : Type}  (K : QF.τ → Option ρ) : Option ρ :=
 K ()
def QF (k : Nat)  : Option QF.τ := QF.c k  some
def QF.T : Q1a := ⟨[.nilp], [], 0⟩
def QF.os : List Out := [⟨.ret, [.auto 0], ⟨[.nilp], []⟩⟩]
def QF.sem (k : Nat) : Qp := Q1g QF.T QF.os fun x => QF k 
noncomputable def QF.ctx (k : Nat) : Ctx := ⟨Tryz.prog, gam []⟩
theorem QF.gok (k : Nat) : ∀ f, Qh Tryz.prog f ((QF.ctx k).Γ f) := QO
def QF.ann (k : Nat) : Ann := .nil
theorem QF.body (k : Nat) : Q1m (QF.ctx k) Tryz.f16 (Func.code Tryz.f16) (QF.ann k) QF.T QF.os (fun x K => QF.c k  K) := by
 intro ρ x K; kernel_rfl
theorem QF.sem_ok (k : Nat) : Qh Tryz.prog 16 (QF.sem k) :=
 Q0S (C := QF.ctx k) (QF.gok k) Tryz.mix (c := Func.code Tryz.f16) (ann := QF.ann k) (T := QF.T) (os := QF.os) (fun x K => QF.c k  K) Tryz.func16 (by kernel_rfl) (by kernel_rfl) Q0.nil (QF.body k) (by kernel_rfl) (by kernel_rfl) (by kernel_rfl)
def QA.c (k : Nat) {ρ : Type} (b : Qdi) (h : Int) (K : Bool × Unit → Option ρ) : Option ρ :=
 (Qu k ((b.1.1, (b.1.2.1, (b.1.2.2.1, (b.1.2.2.2.1, (b.1.2.2.2.2.1, (b.1.2.2.2.2.2.1, ())))))), (b.2.1, ())) h).bind fun t0 => let v1 : Int := t0.2.1
 (QH k ((b.1.1, (b.1.2.1, (b.1.2.2.1, (b.1.2.2.2.1, (b.1.2.2.2.2.1, (b.1.2.2.2.2.2.1, ())))))), (b.2.1, ())) h).bind fun t2 => let v3 : Int := t2.1
 let v4 : Int := t2.2.1
 let v5 : Int := t2.2.2.1
 (QS k ((List.replicate 32 (0 : Int)), ((0 : Int), ()))).bind fun t6 => (QT k ).bind fun t7 => let v8 : (List Int) := t7.1
 let v9 : Int := t7.2.1
 (Q01 k ).bind fun t10 => bif t10.1 then (let v11 : (List ((Int × (ByteArray × Unit)) × (Int × (Bool × Unit)))) := t0.1.1
 let v12 : Int := (((List.length v11) : Nat) : Int)
 bif (v12 == (0 : Int)) then (bif (v1 == (1 : Int)) then (bif (v3 == (0 : Int)) then (bif (v4 == (0 : Int)) then (bif (v5 == (1 : Int)) then ((Q6 k ((b.1.1, (b.1.2.1, (b.1.2.2.1, (b.1.2.2.2.1, (b.1.2.2.2.2.1, (b.1.2.2.2.2.2.1, ())))))), (b.2.1, ())) (t0.1.1, ()) h).bind fun t13 => bif (t13.1 == (1 : Int)) then (bif (!t6.2.1) then (let v14 : (List Int) := (List.replicate 32 (0 : Int))
 bif (decide (v8 = v14)) then (bif (v9 == (0 : Int)) then ((QU k ).bind fun t15 => bif (t15.1 == (0 : Int)) then ((QE k ).bind fun t16 => bif (t16.1 == (0 : Int)) then ((QQ k ).bind fun t17 => let v18 : Int := (((List.length t17.1) : Nat) : Int)
 bif (v18 == (0 : Int)) then ((Qw k ).bind fun t19 => bif (Q3u t19.1 (⟨(List.toArray [])⟩ : ByteArray)) then ((QR k ).bind fun t20 => (QX k (⟨(List.toArray [])⟩ : ByteArray)).bind fun t21 => bif (decide (t20.1 = t21.1)) then ((QF k ).bind fun t22 => K (true, ())) else (K (false, ()))) else (K (false, ()))) else (K (false, ()))) else (K (false, ()))) else (K (false, ()))) else (K (false, ()))) else (K (false, ()))) else (K (false, ()))) else (K (false, ()))) else (K (false, ()))) else (K (false, ()))) else (K (false, ()))) else (K (false, ()))) else (K (false, ()))) else (K (false, ()))
def QA (k : Nat) (b : Qdi) (h : Int) : Option (Bool × Unit) := QA.c k b h some
def QA.tin : List Ty := [Qdh, (.int .i64)]
def QA.tout : List Ty := [.bool]
def QA.sem (k : Nat) : Qp := Qt QA.tin QA.tout fun x => QA k x.1 x.2.1
noncomputable def QA.ctx (k : Nat) : Ctx := ⟨Tryz.prog, gam [(4, (Qu.sem k)), (5, (QH.sem k)), (6, (QS.sem k)), (7, (QT.sem k)), (8, (Q01.sem k)), (9, (Q6.sem k)), (10, (QU.sem k)), (11, (QE.sem k)), (12, (QQ.sem k)), (13, (Qw.sem k)), (14, (QR.sem k)), (15, (QX.sem k)), (16, (QF.sem k))]⟩
theorem QA.gok (k : Nat) : ∀ f, Qh Tryz.prog f ((QA.ctx k).Γ f) := (Qf (Qu.sem_ok k) (Qf (QH.sem_ok k) (Qf (QS.sem_ok k) (Qf (QT.sem_ok k) (Qf (Q01.sem_ok k) (Qf (Q6.sem_ok k) (Qf (QU.sem_ok k) (Qf (QE.sem_ok k) (Qf (QQ.sem_ok k) (Qf (Qw.sem_ok k) (Qf (QR.sem_ok k) (Qf (QX.sem_ok k) (Qf (QF.sem_ok k) QO)))))))))))))
def QA.ann (k : Nat) : Ann := .nil
theorem QA.body (k : Nat) : Q0I (QA.ctx k) Tryz.f3 (Func.code Tryz.f3) (QA.ann k) QA.tin QA.tout (fun x K => QA.c k x.1 x.2.1 K) := by
 intro ρ x K; kernel_rfl
theorem QA.sem_ok (k : Nat) : Qh Tryz.prog 3 (QA.sem k) :=
 Qv (C := QA.ctx k) (QA.gok k) Tryz.mix (c := Func.code Tryz.f3) (ann := QA.ann k) (tin := QA.tin) (tout := QA.tout) (fun x K => QA.c k x.1 x.2.1 K) Tryz.func3 (by kernel_rfl) (by kernel_rfl) Q0.nil (QA.body k)
end Go.Am
namespace Go.Am
open Go
theorem Q7y (b : Qdi) (h : Int) : QA 140737488355328 b h = some (true, ()) := by kernel_rfl
end Go.Am
