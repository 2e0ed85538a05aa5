/- A part of a proof: a machine of abstract values that tells what functions of the program compute, and the plain facts on them. -/
import Derived.Test.YtpoofchknajlgaaAm10
import Derived.Test.YtpoofchknajlgaaAm7
import Derived.KernelRfl
import Derived.Test.YtpoofchknajlgaaAm8
import Derived.Test.YtpoofchknajlgaaAm9
set_option linter.unusedVariables false
set_option linter.unusedSimpArgs false
set_option linter.unnecessarySimpa false
set_option linter.unusedSectionVars false
namespace Go.Am
open Go Go.Proofs
set_option maxRecDepth 100000
def Run.head0 : ByteArray := ⟨List.toArray [98, 101, 100, 114, 111, 99, 107, 106, 0, 0, 0, 0, 0, 0, 0, 0, 84, 183, 221, 29]⟩
theorem Run.head_eq : Q08 140737488355328 0 = some (Run.head0, ()) := by kernel_rfl
def Run.s9 : QS := Q1l Q08.tin Q08.tout (Qco Q08.tin Q08.tout (0, ()) (Run.head0, ()) fun x => Q08 140737488355328 x.1)
theorem Run.m9 : Qz Try.prog 9 Run.s9 := Qe7 (x0 := (0, ())) (y0 := (Run.head0, ())) (tin := Q08.tin) (tout := Q08.tout) (J := fun x => Q08 140737488355328 x.1) Run.head_eq (Q08.sem_ok 140737488355328)
def Q0u.run.told (k : Nat) : List (Nat × QS) := [(9, (Run.s9 )), (7, Q05.sem k)]
noncomputable def Q0u.run.fns : List (Nat × Func) := [(12, Try.f12), (15, Try.f15), (16, Try.f16), (18, Try.f18), (19, Try.f19), (21, Try.f21), (22, Try.f22), (25, Try.f25), (28, Try.f28), (30, Try.f30), (43, Try.f43), (44, Try.f44), (45, Try.f45), (46, Try.f46), (47, Try.f47), (48, Try.f48), (50, Try.f50), (51, Try.f51), (52, Try.f52), (53, Try.f53), (54, Try.f54), (55, Try.f55), (56, Try.f56), (58, Try.f58), (59, Try.f59), (60, Try.f60), (70, Try.f70), (71, Try.f71), (72, Try.f72), (73, Try.f73), (74, Try.f74), (75, Try.f75), (76, Try.f76), (77, Try.f77), (79, Try.f79), (86, Try.f86), (89, Try.f89)]
theorem Q0u.run.told_ok (k : Nat) : ∀ f, Qz Try.prog f (gam (Q0u.run.told k) f) := (Qk (Run.m9) (Qk (Q05.sem_ok k) Q0f))
theorem Q0u.run.fns_ok : Q7q Try.prog Q0u.run.fns := (.cons Try.func12 (by kernel_rfl) (.cons Try.func15 (by kernel_rfl) (.cons Try.func16 (by kernel_rfl) (.cons Try.func18 (by kernel_rfl) (.cons Try.func19 (by kernel_rfl) (.cons Try.func21 (by kernel_rfl) (.cons Try.func22 (by kernel_rfl) (.cons Try.func25 (by kernel_rfl) (.cons Try.func28 (by kernel_rfl) (.cons Try.func30 (by kernel_rfl) (.cons Try.func43 (by kernel_rfl) (.cons Try.func44 (by kernel_rfl) (.cons Try.func45 (by kernel_rfl) (.cons Try.func46 (by kernel_rfl) (.cons Try.func47 (by kernel_rfl) (.cons Try.func48 (by kernel_rfl) (.cons Try.func50 (by kernel_rfl) (.cons Try.func51 (by kernel_rfl) (.cons Try.func52 (by kernel_rfl) (.cons Try.func53 (by kernel_rfl) (.cons Try.func54 (by kernel_rfl) (.cons Try.func55 (by kernel_rfl) (.cons Try.func56 (by kernel_rfl) (.cons Try.func58 (by kernel_rfl) (.cons Try.func59 (by kernel_rfl) (.cons Try.func60 (by kernel_rfl) (.cons Try.func70 (by kernel_rfl) (.cons Try.func71 (by kernel_rfl) (.cons Try.func72 (by kernel_rfl) (.cons Try.func73 (by kernel_rfl) (.cons Try.func74 (by kernel_rfl) (.cons Try.func75 (by kernel_rfl) (.cons Try.func76 (by kernel_rfl) (.cons Try.func77 (by kernel_rfl) (.cons Try.func79 (by kernel_rfl) (.cons Try.func86 (by kernel_rfl) (.cons Try.func89 (by kernel_rfl) .nil)))))))))))))))))))))))))))))))))))))
def Q0u.run.rds : List Nat := [28]
noncomputable def Q0u.run.ctx (k : Nat) : Ctx := ⟨Try.prog, runG Try.prog (Q0u.run.told k) Q0u.run.fns Q0u.run.rds 100 14⟩
def Q0u (_ : Nat) : Option (Bool × Unit) := some (true, ())
def Q0u.tin : List Ty := []
def Q0u.tout : List Ty := [.bool]
def Q0u.sem (k : Nat) : QS := Q1l Q0u.tin Q0u.tout fun _ => Q0u k
theorem Q0u.run.body {ρ : Type} (K : dens [Ty.bool] → Option ρ) : evC (Q0u.run.ctx 140737488355328) (Func.code Try.f8) (annR (Q0u.run.ctx 140737488355328) 100 (Func.code Try.f8)) (Q4D Try.f8.ntmps []) (finK Try.prog Try.f8.results.toList [.bool] K) = K (true, ()) := by kernel_rfl
theorem Q0u.sem_ok (k : Nat) : Qz Try.prog 8 (Q0u.sem k) :=
 QeV (n := 14) (fuel := 100) (rds := Q0u.run.rds) (Q0u.run.told_ok 140737488355328) Try.mix Q0u.run.fns_ok Try.func8 (by kernel_rfl) (by kernel_rfl) (fun K => Q0u.run.body K)
end Go.Am
namespace Go.Am
open Go Go.Proofs Go.Shelf
set_option maxRecDepth 100000
def Mc.fs : List (Nat × Nat) := [(5, 78), (7, 88)]
def Mc.ts : List (Nat × Nat) := [(4, 4), (20, 20), (23, 84), (25, 9), (3, 9)]
def Mc.ren : Ren := ⟨Bld.look Mc.fs, Bld.look Mc.ts, fun n => n⟩
theorem Mc.lays : SlLaysW.n5 Try.prog Mc.ren where
 mixed := by kernel_rfl
 f5 := ⟨"maps.Clone[bedrock/disk.files,string,string]", by decide, by kernel_rfl⟩
 f7 := by kernel_rfl
 t4 := by kernel_rfl
 a4 := fun w => by kernel_rfl
 z4 := fun w => by kernel_rfl
 v4 := fun w => by kernel_rfl
 t20 := by kernel_rfl
 a20 := fun w => by kernel_rfl
 z20 := fun w => by kernel_rfl
 v20 := fun w => by kernel_rfl
 t23 := by kernel_rfl
 a23 := fun w => by kernel_rfl
 z23 := fun w => by kernel_rfl
 v23 := fun w => by kernel_rfl
theorem Mc.clone : Qz Try.prog 78 Qcq := Q9I Mc.lays (by kernel_rfl)
end Go.Am
