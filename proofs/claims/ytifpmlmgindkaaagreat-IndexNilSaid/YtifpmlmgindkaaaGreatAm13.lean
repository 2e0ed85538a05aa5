/- A part of a proof: a machine of abstract values that tells what functions of the program compute, and the plain facts on them. -/
import Derived.Test.YtifpmlmgindkaaaGreatAm12
import Derived.Test.YtifpmlmgindkaaaGreatAm7
import Derived.KernelRfl
set_option linter.unusedVariables false
set_option linter.unusedSimpArgs false
set_option linter.unnecessarySimpa false
set_option linter.unusedSectionVars false
namespace Go.Am
abbrev Qe7 : Ty := (.arr 32 (.int .u8))
abbrev Qe6 : Type := (List ((List Int) × Int))
abbrev Qe5 : Ty := (.pair (.int .i64) .unit)
abbrev Qe4 : Type := (Unit × (Unit × (Unit × (Int × Unit))))
abbrev Qe3 : Type := (Bool ×  Qe4  ×  Qe6  × Unit)
abbrev Qe2 : Type := ((Int × ((List Int) × ((List Int) × (Int × (Int × (Int × Unit)))))) × (Int × (Int × (Int × (Int × (Int × Unit))))))
abbrev Qe1 : Type := (List  Qe2 )
abbrev Qe0 : Type := ( Qe4  ×  Qe6  ×  Qe1  × Unit)
abbrev QdZ : Type := (Bool ×  Qe4  ×  Qe6  ×  Qe1  × Unit)
abbrev QdY : Ty := (.pair (.pair (.int .u32) (.pair  Qe7  (.pair  Qe7  (.pair (.int .u32) (.pair (.int .u32) (.pair (.int .u32) .unit)))))) (.pair (.int .i64) (.pair (.int .i64) (.pair (.int .i64) (.pair (.int .i64)  Qe5 )))))
end Go.Am
namespace Go.Am
open Go Go.Proofs
set_option maxRecDepth 100000
def Run.gen0 : dens Q0s.tout := (((1, ([0, 0, 0, 0, 0, 0, 0, 0, 0, 0, 0, 0, 0, 0, 0, 0, 0, 0, 0, 0, 0, 0, 0, 0, 0, 0, 0, 0, 0, 0, 0, 0], ([113, 204, 51, 115, 232, 45, 155, 36, 155, 134, 11, 93, 43, 105, 61, 93, 163, 17, 221, 217, 44, 202, 254, 63, 129, 214, 200, 191, 249, 149, 82, 226], (1600000000, (545259519, (1, ())))))), ([(1, ([(([0, 0, 0, 0, 0, 0, 0, 0, 0, 0, 0, 0, 0, 0, 0, 0, 0, 0, 0, 0, 0, 0, 0, 0, 0, 0, 0, 0, 0, 0, 0, 0], (4294967295, ())), (⟨List.toArray [0, 0, 0, 0, 98, 101, 100, 114, 111, 99, 107]⟩, (4294967295, ())))], ([(5000, (⟨List.toArray []⟩, ()))], (0, ()))))], ())), ())
def Run.hdr0 : (Int × List Int × List Int × Int × Int × Int × Unit) := (1, ([0, 0, 0, 0, 0, 0, 0, 0, 0, 0, 0, 0, 0, 0, 0, 0, 0, 0, 0, 0, 0, 0, 0, 0, 0, 0, 0, 0, 0, 0, 0, 0], ([113, 204, 51, 115, 232, 45, 155, 36, 155, 134, 11, 93, 43, 105, 61, 93, 163, 17, 221, 217, 44, 202, 254, 63, 129, 214, 200, 191, 249, 149, 82, 226], (1600000000, (545259519, (1, ()))))))
def Run.id0 : List Int := [241, 135, 212, 169, 168, 254, 156, 207, 249, 187, 137, 185, 194, 139, 194, 134, 119, 138, 238, 31, 164, 82, 73, 164, 143, 38, 180, 66, 229, 50, 163, 21]
def Run.head0 : ByteArray := ⟨List.toArray [98, 101, 100, 114, 111, 99, 107, 106, 0, 0, 0, 0, 0, 0, 0, 0, 84, 183, 221, 29]⟩
def Run.bytes0 : ByteArray := ⟨List.toArray [1, 0, 0, 0, 0, 0, 0, 0, 0, 0, 0, 0, 0, 0, 0, 0, 0, 0, 0, 0, 0, 0, 0, 0, 0, 0, 0, 0, 0, 0, 0, 0, 0, 0, 0, 0, 113, 204, 51, 115, 232, 45, 155, 36, 155, 134, 11, 93, 43, 105, 61, 93, 163, 17, 221, 217, 44, 202, 254, 63, 129, 214, 200, 191, 249, 149, 82, 226, 0, 16, 94, 95, 255, 255, 127, 32, 1, 0, 0, 0, 0, 0, 0, 0, 3, 0, 0, 0, 0, 0, 0, 0, 0, 0, 0, 0, 0]⟩
def Run.rec0 : ByteArray := ⟨List.toArray [97, 0, 0, 0, 0, 0, 0, 0, 0, 0, 0, 0, 1, 0, 0, 0, 0, 0, 0, 0, 0, 0, 0, 0, 0, 0, 0, 0, 0, 0, 0, 0, 0, 0, 0, 0, 0, 0, 0, 0, 0, 0, 0, 0, 0, 0, 0, 0, 113, 204, 51, 115, 232, 45, 155, 36, 155, 134, 11, 93, 43, 105, 61, 93, 163, 17, 221, 217, 44, 202, 254, 63, 129, 214, 200, 191, 249, 149, 82, 226, 0, 16, 94, 95, 255, 255, 127, 32, 1, 0, 0, 0, 0, 0, 0, 0, 3, 0, 0, 0, 0, 0, 0, 0, 0, 0, 0, 0, 0, 194, 181, 187, 140]⟩
theorem Run.gen_eq : Q0s 140737488355328 = some Run.gen0 := by kernel_rfl
theorem Run.id_eq : Q0O 140737488355328 Run.hdr0 = some (Run.id0, ()) := by kernel_rfl
theorem Run.head_eq : Q0B 140737488355328 0 = some (Run.head0, ()) := by kernel_rfl
theorem Run.bytes_eq : Q0G 140737488355328 (Run.hdr0, 0, 3, 0, 0, 0, ()) = some (Run.bytes0, 0, ()) := by kernel_rfl
theorem Run.rec_eq : Q0i 140737488355328 0 0 Run.bytes0 = some (Run.rec0, 0, ()) := by kernel_rfl
def Run.s45 : Qr := QX Q0s.tin Q0s.tout (Q6x Q0s.tin Q0s.tout () Run.gen0 fun x => Q0s 140737488355328 )
theorem Run.m45 : Qm Tryz.prog 45 Run.s45 := Q5r (x0 := ()) (y0 := Run.gen0) (tin := Q0s.tin) (tout := Q0s.tout) (J := fun x => Q0s 140737488355328 ) Run.gen_eq (Q0s.sem_ok 140737488355328)
def Run.s46 : Qr := QX Q0O.tin Q0O.tout (Q6x Q0O.tin Q0O.tout (Run.hdr0, ()) (Run.id0, ()) fun x => Q0O 140737488355328 x.1)
theorem Run.m46 : Qm Tryz.prog 46 Run.s46 := Q5r (x0 := (Run.hdr0, ())) (y0 := (Run.id0, ())) (tin := Q0O.tin) (tout := Q0O.tout) (J := fun x => Q0O 140737488355328 x.1) Run.id_eq (Q0O.sem_ok 140737488355328)
def Run.s95 : Qr := QX Q0B.tin Q0B.tout (Q6x Q0B.tin Q0B.tout (0, ()) (Run.head0, ()) fun x => Q0B 140737488355328 x.1)
theorem Run.m95 : Qm Tryz.prog 95 Run.s95 := Q5r (x0 := (0, ())) (y0 := (Run.head0, ())) (tin := Q0B.tin) (tout := Q0B.tout) (J := fun x => Q0B 140737488355328 x.1) Run.head_eq (Q0B.sem_ok 140737488355328)
def Run.s7 : Qr := QX Q0G.tin Q0G.tout (Q6x Q0G.tin Q0G.tout ((Run.hdr0, 0, 3, 0, 0, 0, ()), ()) (Run.bytes0, 0, ()) fun x => Q0G 140737488355328 x.1)
theorem Run.m7 : Qm Tryz.prog 7 Run.s7 := Q5r (x0 := ((Run.hdr0, 0, 3, 0, 0, 0, ()), ())) (y0 := (Run.bytes0, 0, ())) (tin := Q0G.tin) (tout := Q0G.tout) (J := fun x => Q0G 140737488355328 x.1) Run.bytes_eq (Q0G.sem_ok 140737488355328)
def Run.s63 : Qr := QX Q0i.tin Q0i.tout (Q6x Q0i.tin Q0i.tout (0, 0, Run.bytes0, ()) (Run.rec0, 0, ()) fun x => Q0i 140737488355328 x.1 x.2.1 x.2.2.1)
theorem Run.m63 : Qm Tryz.prog 63 Run.s63 := Q5r (x0 := (0, 0, Run.bytes0, ())) (y0 := (Run.rec0, 0, ())) (tin := Q0i.tin) (tout := Q0i.tout) (J := fun x => Q0i 140737488355328 x.1 x.2.1 x.2.2.1) Run.rec_eq (Q0i.sem_ok 140737488355328)
def QW.run.told (k : Nat) : List (Nat × Qr) := [(45, (Run.s45 )), (46, (Run.s46 )), (95, (Run.s95 )), (7, (Run.s7 )), (63, (Run.s63 )), (8, Q0W.sem k), (32, Q0M.sem k)]
noncomputable def QW.run.fns : List (Nat × Func) := [(14, Tryz.f14), (15, Tryz.f15), (18, Tryz.f18), (19, Tryz.f19), (21, Tryz.f21), (24, Tryz.f24), (25, Tryz.f25), (40, Tryz.f40), (41, Tryz.f41), (51, Tryz.f51), (52, Tryz.f52), (53, Tryz.f53), (54, Tryz.f54), (55, Tryz.f55), (56, Tryz.f56), (57, Tryz.f57), (58, Tryz.f58), (62, Tryz.f62), (64, Tryz.f64), (65, Tryz.f65), (66, Tryz.f66), (67, Tryz.f67), (68, Tryz.f68), (69, Tryz.f69), (70, Tryz.f70), (71, Tryz.f71), (72, Tryz.f72), (73, Tryz.f73), (85, Tryz.f85), (86, Tryz.f86), (87, Tryz.f87), (92, Tryz.f92), (93, Tryz.f93), (94, Tryz.f94), (96, Tryz.f96), (97, Tryz.f97), (98, Tryz.f98), (99, Tryz.f99), (100, Tryz.f100), (101, Tryz.f101), (103, Tryz.f103), (107, Tryz.f107), (113, Tryz.f113), (119, Tryz.f119), (123, Tryz.f123)]
theorem QW.run.told_ok (k : Nat) : ∀ f, Qm Tryz.prog f (gam (QW.run.told k) f) := (Q8 (Run.m45) (Q8 (Run.m46) (Q8 (Run.m95) (Q8 (Run.m7) (Q8 (Run.m63) (Q8 (Q0W.sem_ok k) (Q8 (Q0M.sem_ok k) QK)))))))
theorem QW.run.fns_ok : Q6k Tryz.prog QW.run.fns := (.cons Tryz.func14 (by kernel_rfl) (.cons Tryz.func15 (by kernel_rfl) (.cons Tryz.func18 (by kernel_rfl) (.cons Tryz.func19 (by kernel_rfl) (.cons Tryz.func21 (by kernel_rfl) (.cons Tryz.func24 (by kernel_rfl) (.cons Tryz.func25 (by kernel_rfl) (.cons Tryz.func40 (by kernel_rfl) (.cons Tryz.func41 (by kernel_rfl) (.cons Tryz.func51 (by kernel_rfl) (.cons Tryz.func52 (by kernel_rfl) (.cons Tryz.func53 (by kernel_rfl) (.cons Tryz.func54 (by kernel_rfl) (.cons Tryz.func55 (by kernel_rfl) (.cons Tryz.func56 (by kernel_rfl) (.cons Tryz.func57 (by kernel_rfl) (.cons Tryz.func58 (by kernel_rfl) (.cons Tryz.func62 (by kernel_rfl) (.cons Tryz.func64 (by kernel_rfl) (.cons Tryz.func65 (by kernel_rfl) (.cons Tryz.func66 (by kernel_rfl) (.cons Tryz.func67 (by kernel_rfl) (.cons Tryz.func68 (by kernel_rfl) (.cons Tryz.func69 (by kernel_rfl) (.cons Tryz.func70 (by kernel_rfl) (.cons Tryz.func71 (by kernel_rfl) (.cons Tryz.func72 (by kernel_rfl) (.cons Tryz.func73 (by kernel_rfl) (.cons Tryz.func85 (by kernel_rfl) (.cons Tryz.func86 (by kernel_rfl) (.cons Tryz.func87 (by kernel_rfl) (.cons Tryz.func92 (by kernel_rfl) (.cons Tryz.func93 (by kernel_rfl) (.cons Tryz.func94 (by kernel_rfl) (.cons Tryz.func96 (by kernel_rfl) (.cons Tryz.func97 (by kernel_rfl) (.cons Tryz.func98 (by kernel_rfl) (.cons Tryz.func99 (by kernel_rfl) (.cons Tryz.func100 (by kernel_rfl) (.cons Tryz.func101 (by kernel_rfl) (.cons Tryz.func103 (by kernel_rfl) (.cons Tryz.func107 (by kernel_rfl) (.cons Tryz.func113 (by kernel_rfl) (.cons Tryz.func119 (by kernel_rfl) (.cons Tryz.func123 (by kernel_rfl) .nil)))))))))))))))))))))))))))))))))))))))))))))
def QW.run.rds : List Nat := [66]
noncomputable def QW.run.ctx (k : Nat) : Ctx := ⟨Tryz.prog, runG Tryz.prog (QW.run.told k) QW.run.fns QW.run.rds 100 14⟩
def QW (_ : Nat) : Option (Bool × Unit) := some (true, ())
def QW.tin : List Ty := []
def QW.tout : List Ty := [.bool]
def QW.sem (k : Nat) : Qr := QX QW.tin QW.tout fun _ => QW k
theorem QW.run.body {ρ : Type} (K : dens [Ty.bool] → Option ρ) : evC (QW.run.ctx 140737488355328) (Func.code Tryz.f10) (annR (QW.run.ctx 140737488355328) 100 (Func.code Tryz.f10)) (Q3T Tryz.f10.ntmps []) (finK Tryz.prog Tryz.f10.results.toList [.bool] K) = K (true, ()) := by kernel_rfl
theorem QW.sem_ok (k : Nat) : Qm Tryz.prog 10 (QW.sem k) :=
 Qcs (n := 14) (fuel := 100) (rds := QW.run.rds) (QW.run.told_ok 140737488355328) Tryz.mix QW.run.fns_ok Tryz.func10 (by kernel_rfl) (by kernel_rfl) (fun K => QW.run.body K)
end Go.Am
namespace Go.Am
open Go Go.Proofs
set_option maxRecDepth 100000
abbrev Q4.p0.σ : Type := ByteArray × Int × Int × Int × Qe2 × Qe2 × Qe2 × Unit
abbrev Q4.p0.τ : Type := (Bool × Unit) ⊕ (ByteArray × Int × Qe2 × Unit)
def Q4.p0.r (k : Nat) {ρ : Type} (x : Q4.p0.σ) (K : Q4.p0.τ → Option ρ) : Option ρ :=
 (QW k ).bind fun t7 => bif (!t7.1) then (K (.inl (false, ()))) else ((Q0h k ((x.2.2.2.2.2.1.1.1, (x.2.2.2.2.2.1.1.2.1, (x.2.2.2.2.2.1.1.2.2.1, (x.2.2.2.2.2.1.1.2.2.2.1, (x.2.2.2.2.2.1.1.2.2.2.2.1, (x.2.2.2.2.2.1.1.2.2.2.2.2.1, ())))))), (x.2.2.2.2.2.1.2.1, (x.2.2.2.2.2.1.2.2.1, (x.2.2.2.2.2.1.2.2.2.1, (x.2.2.2.2.2.1.2.2.2.2.1, (x.2.2.2.2.2.1.2.2.2.2.2.1, ()))))))).bind fun t8 => bif (!(((t8.1.1.1 == x.2.2.2.2.2.2.1.1.1) && ((decide (t8.1.1.2.1 = x.2.2.2.2.2.2.1.1.2.1)) && ((decide (t8.1.1.2.2.1 = x.2.2.2.2.2.2.1.1.2.2.1)) && ((t8.1.1.2.2.2.1 == x.2.2.2.2.2.2.1.1.2.2.2.1) && ((t8.1.1.2.2.2.2.1 == x.2.2.2.2.2.2.1.1.2.2.2.2.1) && ((t8.1.1.2.2.2.2.2.1 == x.2.2.2.2.2.2.1.1.2.2.2.2.2.1) && true)))))) && ((t8.1.2.1 == x.2.2.2.2.2.2.1.2.1) && ((t8.1.2.2.1 == x.2.2.2.2.2.2.1.2.2.1) && ((t8.1.2.2.2.1 == x.2.2.2.2.2.2.1.2.2.2.1) && ((t8.1.2.2.2.2.1 == x.2.2.2.2.2.2.1.2.2.2.2.1) && ((t8.1.2.2.2.2.2.1 == x.2.2.2.2.2.2.1.2.2.2.2.2.1) && true))))))) then (K (.inl (false, ()))) else (bif (x.2.2.1 != x.2.2.2.1) then (K (.inl (false, ()))) else (K (.inr (x.1, (x.2.1, (((x.2.2.2.2.1.1.1, (x.2.2.2.2.1.1.2.1, (x.2.2.2.2.1.1.2.2.1, (x.2.2.2.2.1.1.2.2.2.1, (x.2.2.2.2.1.1.2.2.2.2.1, (x.2.2.2.2.1.1.2.2.2.2.2.1, ())))))), (x.2.2.2.2.1.2.1, (x.2.2.2.2.1.2.2.1, (x.2.2.2.2.1.2.2.2.1, (x.2.2.2.2.1.2.2.2.2.1, (x.2.2.2.2.1.2.2.2.2.2.1, ())))))), ())))))))
def Q4.p0 (k : Nat) (x : Q4.p0.σ) : Option Q4.p0.τ := Q4.p0.r k x some
def Q4.p0.T : StT := ⟨us 2 ++ .ptr 0 [] :: us 2 ++ .dat .str :: .dat (.int .i64) :: .ptr 1 [] :: .dat (.int .i64) :: .ptr 2 [] :: .dat (.int .i64) :: us 63, [.dat QdY, .dat QdY, .dat QdY]⟩
def Q4.p0.os : List Out := [⟨.ret, [.mask [4], .auto 0], ⟨us 4 ++ .dat .bool :: us 69, []⟩⟩, ⟨.normal, [.mask [2, 5, 6], .auto 0], ⟨us 2 ++ .ptr 0 [] :: us 2 ++ .dat .str :: .dat (.int .i64) :: us 67, [.dat QdY]⟩⟩]
def Q4.c (k : Nat) {ρ : Type} (e : Qe2) (s : ByteArray) (K : Bool × Unit → Option ρ) : Option ρ :=
  (Q0G k ((e.1.1, (e.1.2.1, (e.1.2.2.1, (e.1.2.2.2.1, (e.1.2.2.2.2.1, (e.1.2.2.2.2.2.1, ())))))), (e.2.1, (e.2.2.1, (e.2.2.2.1, (e.2.2.2.2.1, (e.2.2.2.2.2.1, ()))))))).bind fun t0 => let v1 : ByteArray := t0.1
  let v2 : Int := t0.2.1
  (Q0W k s).bind fun t3 => let v4 : Int := t3.2.1
  (Q0f k s).bind fun t5 => let v6 : Int := t5.2.1
  (Q4.p0 k (v1, (v2, (v4, (v6, (((e.1.1, (e.1.2.1, (e.1.2.2.1, (e.1.2.2.2.1, (e.1.2.2.2.2.1, (e.1.2.2.2.2.2.1, ())))))), (e.2.1, (e.2.2.1, (e.2.2.2.1, (e.2.2.2.2.1, (e.2.2.2.2.2.1, ())))))), (((t3.1.1.1, (t3.1.1.2.1, (t3.1.1.2.2.1, (t3.1.1.2.2.2.1, (t3.1.1.2.2.2.2.1, (t3.1.1.2.2.2.2.2.1, ())))))), (t3.1.2.1, (t3.1.2.2.1, (t3.1.2.2.2.1, (t3.1.2.2.2.2.1, (t3.1.2.2.2.2.2.1, ())))))), (((t5.1.1.1, (t5.1.1.2.1, (t5.1.1.2.2.1, (t5.1.1.2.2.2.1, (t5.1.1.2.2.2.2.1, (t5.1.1.2.2.2.2.2.1, ())))))), (t5.1.2.1, (t5.1.2.2.1, (t5.1.2.2.2.1, (t5.1.2.2.2.2.1, (t5.1.2.2.2.2.2.1, ())))))), ())))))))).bind fun t9 => (match t9 with
 | .inl t10 => (K (t10.1, ()))
 | .inr (t11) => ((Q0h k ((t11.2.2.1.1.1, (t11.2.2.1.1.2.1, (t11.2.2.1.1.2.2.1, (t11.2.2.1.1.2.2.2.1, (t11.2.2.1.1.2.2.2.2.1, (t11.2.2.1.1.2.2.2.2.2.1, ())))))), (t11.2.2.1.2.1, (t11.2.2.1.2.2.1, (t11.2.2.1.2.2.2.1, (t11.2.2.1.2.2.2.2.1, (t11.2.2.1.2.2.2.2.2.1, ()))))))).bind fun t12 => (Q0c k ((t12.1.1.1, (t12.1.1.2.1, (t12.1.1.2.2.1, (t12.1.1.2.2.2.1, (t12.1.1.2.2.2.2.1, (t12.1.1.2.2.2.2.2.1, ())))))), (t12.1.2.1, (t12.1.2.2.1, (t12.1.2.2.2.1, (t12.1.2.2.2.2.1, (t12.1.2.2.2.2.2.1, ()))))))).bind fun t13 => bif (!t13.1) then (bif (Q2y t11.1 (⟨(List.toArray [])⟩ : ByteArray)) then (K ((t11.2.1 == (130 : Int)), ())) else (K (false, ()))) else ((Q0W k t11.1).bind fun t14 => let v15 : Int := t14.2.1
  bif (t11.2.1 == (0 : Int)) then ((Q0h k ((t11.2.2.1.1.1, (t11.2.2.1.1.2.1, (t11.2.2.1.1.2.2.1, (t11.2.2.1.1.2.2.2.1, (t11.2.2.1.1.2.2.2.2.1, (t11.2.2.1.1.2.2.2.2.2.1, ())))))), (t11.2.2.1.2.1, (t11.2.2.1.2.2.1, (t11.2.2.1.2.2.2.1, (t11.2.2.1.2.2.2.2.1, (t11.2.2.1.2.2.2.2.2.1, ()))))))).bind fun t16 => (Q07 k ((t16.1.1.1, (t16.1.1.2.1, (t16.1.1.2.2.1, (t16.1.1.2.2.2.1, (t16.1.1.2.2.2.2.1, (t16.1.1.2.2.2.2.2.1, ())))))), (t16.1.2.1, (t16.1.2.2.1, (t16.1.2.2.2.1, (t16.1.2.2.2.2.1, (t16.1.2.2.2.2.2.1, ()))))))).bind fun t17 => bif (Q2y t11.1 t17.1) then (bif (v15 == (0 : Int)) then (K ((((t14.1.1.1 == t11.2.2.1.1.1) && ((decide (t14.1.1.2.1 = t11.2.2.1.1.2.1)) && ((decide (t14.1.1.2.2.1 = t11.2.2.1.1.2.2.1)) && ((t14.1.1.2.2.2.1 == t11.2.2.1.1.2.2.2.1) && ((t14.1.1.2.2.2.2.1 == t11.2.2.1.1.2.2.2.2.1) && ((t14.1.1.2.2.2.2.2.1 == t11.2.2.1.1.2.2.2.2.2.1) && true)))))) && ((t14.1.2.1 == t11.2.2.1.2.1) && ((t14.1.2.2.1 == t11.2.2.1.2.2.1) && ((t14.1.2.2.2.1 == t11.2.2.1.2.2.2.1) && ((t14.1.2.2.2.2.1 == t11.2.2.1.2.2.2.2.1) && ((t14.1.2.2.2.2.2.1 == t11.2.2.1.2.2.2.2.2.1) && true)))))), ())) else (K (false, ()))) else (K (false, ()))) else (K (false, ())))))
def Q4 (k : Nat) (e : Qe2) (s : ByteArray) : Option (Bool × Unit) := Q4.c k e s some
def Q4.tin : List Ty := [QdY, .str]
def Q4.tout : List Ty := [.bool]
def Q4.sem (k : Nat) : Qr := QX Q4.tin Q4.tout fun x => Q4 k x.1 x.2.1
noncomputable def Q4.ctx (k : Nat) : Ctx := ⟨Tryz.prog, gam [(7, (Q0G.sem k)), (8, (Q0W.sem k)), (9, (Q0f.sem k)), (10, (QW.sem k)), (11, (Q0h.sem k)), (12, (Q0c.sem k)), (13, (Q07.sem k))]⟩
theorem Q4.gok (k : Nat) : ∀ f, Qm Tryz.prog f ((Q4.ctx k).Γ f) := (Q8 (Q0G.sem_ok k) (Q8 (Q0W.sem_ok k) (Q8 (Q0f.sem_ok k) (Q8 (QW.sem_ok k) (Q8 (Q0h.sem_ok k) (Q8 (Q0c.sem_ok k) (Q8 (Q07.sem_ok k) QK)))))))
theorem Q4.p0.is (k : Nat) : Q2G (Q4.ctx k) (Q0y (Func.code Tryz.f3) [1, 1, 1, 1, 0]) (.nil) Q4.p0.T Q4.p0.os (Q4.p0.r k) := by
 intro ρ x K; kernel_rfl
theorem Q4.p0.ok (k : Nat) : StOK 0 Tryz.prog (Q0y (Func.code Tryz.f3) [1, 1, 1, 1, 0]) (QO Q4.p0.T Q4.p0.os (Q4.p0 k)) :=
 Q2w (C := Q4.ctx k) (T := Q4.p0.T) (os := Q4.p0.os) (Q4.gok k) Tryz.mix (fun x K => Q4.p0.r k x K) Q1.nil (by kernel_rfl) (by kernel_rfl) (Q4.p0.is k)
def Q4.ann (k : Nat) : Ann := .node [] none (.nil) (.node [] none (.nil) (.node [] none (.nil) (.node [] none (.nil) (.node [] none (.node [.mask [2, 5, 6, 7, 8, 9, 10], .auto 0] (some (QO Q4.p0.T Q4.p0.os (Q4.p0 k))) .nil .nil) (.nil)))))
theorem Q4.body (k : Nat) : Q0Y (Q4.ctx k) Tryz.f3 (Func.code Tryz.f3) (Q4.ann k) Q4.tin Q4.tout (fun x K => Q4.c k x.1 x.2.1 K) := by
 intro ρ x K; kernel_rfl
theorem Q4.sem_ok (k : Nat) : Qm Tryz.prog 3 (Q4.sem k) :=
 QD (C := Q4.ctx k) (Q4.gok k) Tryz.mix (c := Func.code Tryz.f3) (ann := Q4.ann k) (tin := Q4.tin) (tout := Q4.tout) (fun x K => Q4.c k x.1 x.2.1 K) Tryz.func3 (by kernel_rfl) (by kernel_rfl) (Q1.seq Q1.nil (Q1.seq Q1.nil (Q1.seq Q1.nil (Q1.seq Q1.nil (Q1.seq (Q1.loop (by kernel_rfl) (Q4.p0.ok k)) Q1.nil))))) (Q4.body k)
end Go.Am
namespace Go.Am
open Go Go.Proofs
set_option maxRecDepth 100000
abbrev Q04.τ : Type := (Qe2 × Bool × Unit)
def Q04.c (k : Nat) {ρ : Type} (id : (List Int)) (K : Q04.τ → Option ρ) : Option ρ :=
 K ((((0 : Int), ((List.replicate 32 (0 : Int)), ((List.replicate 32 (0 : Int)), ((0 : Int), ((0 : Int), ((0 : Int), ())))))), ((0 : Int), ((0 : Int), ((0 : Int), ((0 : Int), ((0 : Int), ())))))), (false, ()))
def Q04 (k : Nat) (id : (List Int)) : Option Q04.τ := Q04.c k id some
def Q04.T : Q1g := ⟨[.nilp, .dat Qe7], [], 0⟩
def Q04.os : List Out := [⟨.ret, [.freeze (.slot 0), .freeze (.slot 1), .auto 0], ⟨[.dat QdY, .dat .bool], []⟩⟩]
def Q04.sem (k : Nat) : Qr := Q1j Q04.T Q04.os fun x => Q04 k x.1
noncomputable def Q04.ctx (k : Nat) : Ctx := ⟨Tryz.prog, gam []⟩
theorem Q04.gok (k : Nat) : ∀ f, Qm Tryz.prog f ((Q04.ctx k).Γ f) := QK
def Q04.ann (k : Nat) : Ann := .nil
theorem Q04.body (k : Nat) : Q1n (Q04.ctx k) Tryz.f24 (Func.code Tryz.f24) (Q04.ann k) Q04.T Q04.os (fun x K => Q04.c k x.1 K) := by
 intro ρ x K; kernel_rfl
theorem Q04.sem_ok (k : Nat) : Qm Tryz.prog 24 (Q04.sem k) :=
 Q0U (C := Q04.ctx k) (Q04.gok k) Tryz.mix (c := Func.code Tryz.f24) (ann := Q04.ann k) (T := Q04.T) (os := Q04.os) (fun x K => Q04.c k x.1 K) Tryz.func24 (by kernel_rfl) (by kernel_rfl) Q1.nil (Q04.body k) (by kernel_rfl) (by kernel_rfl) (by kernel_rfl)
abbrev Q0v.τ : Type := (Int × Unit)
def Q0v.c (k : Nat) {ρ : Type} (name : ByteArray) (K : Q0v.τ → Option ρ) : Option ρ :=
 K ((1 : Int), ())
def Q0v (k : Nat) (name : ByteArray) : Option Q0v.τ := Q0v.c k name some
def Q0v.T : Q1g := ⟨[.nilp, .dat .str], [], 0⟩
def Q0v.os : List Out := [⟨.ret, [.freeze (.slot 1), .auto 0], ⟨[.nilp, .dat (.int .i64)], []⟩⟩]
def Q0v.sem (k : Nat) : Qr := Q1j Q0v.T Q0v.os fun x => Q0v k x.1
noncomputable def Q0v.ctx (k : Nat) : Ctx := ⟨Tryz.prog, gam []⟩
theorem Q0v.gok (k : Nat) : ∀ f, Qm Tryz.prog f ((Q0v.ctx k).Γ f) := QK
def Q0v.ann (k : Nat) : Ann := .nil
theorem Q0v.body (k : Nat) : Q1n (Q0v.ctx k) Tryz.f15 (Func.code Tryz.f15) (Q0v.ann k) Q0v.T Q0v.os (fun x K => Q0v.c k x.1 K) := by
 intro ρ x K; kernel_rfl
theorem Q0v.sem_ok (k : Nat) : Qm Tryz.prog 15 (Q0v.sem k) :=
 Q0U (C := Q0v.ctx k) (Q0v.gok k) Tryz.mix (c := Func.code Tryz.f15) (ann := Q0v.ann k) (T := Q0v.T) (os := Q0v.os) (fun x K => Q0v.c k x.1 K) Tryz.func15 (by kernel_rfl) (by kernel_rfl) Q1.nil (Q0v.body k) (by kernel_rfl) (by kernel_rfl) (by kernel_rfl)
abbrev QC.τ : Type := ((List ByteArray) × Unit)
def QC.c (k : Nat) {ρ : Type}  (K : QC.τ → Option ρ) : Option ρ :=
 K ([], ())
def QC (k : Nat)  : Option QC.τ := QC.c k  some
def QC.T : Q1g := ⟨[.nilp], [], 0⟩
def QC.os : List Out := [⟨.ret, [.freeze (.slot 0), .auto 0], ⟨[.dat (.sl .str)], []⟩⟩]
def QC.sem (k : Nat) : Qr := Q1j QC.T QC.os fun x => QC k 
noncomputable def QC.ctx (k : Nat) : Ctx := ⟨Tryz.prog, gam []⟩
theorem QC.gok (k : Nat) : ∀ f, Qm Tryz.prog f ((QC.ctx k).Γ f) := QK
def QC.ann (k : Nat) : Ann := .nil
theorem QC.body (k : Nat) : Q1n (QC.ctx k) Tryz.f21 (Func.code Tryz.f21) (QC.ann k) QC.T QC.os (fun x K => QC.c k  K) := by
 intro ρ x K; kernel_rfl
theorem QC.sem_ok (k : Nat) : Qm Tryz.prog 21 (QC.sem k) :=
 Q0U (C := QC.ctx k) (QC.gok k) Tryz.mix (c := Func.code Tryz.f21) (ann := QC.ann k) (T := QC.T) (os := QC.os) (fun x K => QC.c k  K) Tryz.func21 (by kernel_rfl) (by kernel_rfl) Q1.nil (QC.body k) (by kernel_rfl) (by kernel_rfl) (by kernel_rfl)
abbrev Qf.p0.σ : Type := Qe4 × Qe6 × Qe2 × Unit
abbrev Qf.p0.τ : Type := Qe3 ⊕ (Qe4 × Qe6 × Qe2 × Unit)
def Qf.p0.r (k : Nat) {ρ : Type} (x : Qf.p0.σ) (K : Qf.p0.τ → Option ρ) : Option ρ :=
 (Q0O k (x.2.2.1.1.1, (x.2.2.1.1.2.1, (x.2.2.1.1.2.2.1, (x.2.2.1.1.2.2.2.1, (x.2.2.1.1.2.2.2.2.1, (x.2.2.1.1.2.2.2.2.2.1, ()))))))).bind fun t0 => let v1 : Int := (Option.getD (mget (Ty.arr 32 (Ty.int IntKind.u8)) t0.1 x.2.1) (0 : Int))
 bif (Option.isSome (mget (Ty.arr 32 (Ty.int IntKind.u8)) t0.1 x.2.1)) then (K (.inl (false, (((), ((), ((), (x.1.2.2.2.1, ())))), (x.2.1, ()))))) else (let v2 : Int := x.2.2.1.2.1
 bif (v2 == (0 : Int)) then (K (.inl (false, (((), ((), ((), (x.1.2.2.2.1, ())))), (x.2.1, ()))))) else (K (.inr (((), ((), ((), (x.1.2.2.2.1, ())))), (x.2.1, (((x.2.2.1.1.1, (x.2.2.1.1.2.1, (x.2.2.1.1.2.2.1, (x.2.2.1.1.2.2.2.1, (x.2.2.1.1.2.2.2.2.1, (x.2.2.1.1.2.2.2.2.2.1, ())))))), (x.2.2.1.2.1, (x.2.2.1.2.2.1, (x.2.2.1.2.2.2.1, (x.2.2.1.2.2.2.2.1, (x.2.2.1.2.2.2.2.2.1, ())))))), ()))))))
def Qf.p0 (k : Nat) (x : Qf.p0.σ) : Option Qf.p0.τ := Qf.p0.r k x some
def Qf.p0.T : StT := ⟨.ptr 0 [] :: us 2 ++ .ptr 2 [] :: us 49, [.pair (.nilp) (.pair (.mp 1) (.pair (.nils) (.dat Qe5))), .mpd Qe7 (.int .i64), .dat QdY]⟩
def Qf.p0.os : List Out := [⟨.ret, [.mask [4], .auto 2], ⟨us 4 ++ .dat .bool :: us 48, [.pair (.nilp) (.pair (.mp 1) (.pair (.nils) (.dat Qe5))), .mpd Qe7 (.int .i64)]⟩⟩, ⟨.normal, [.mask [0, 3], .auto 2], ⟨.ptr 0 [] :: us 2 ++ .ptr 2 [] :: us 49, [.pair (.nilp) (.pair (.mp 1) (.pair (.nils) (.dat Qe5))), .mpd Qe7 (.int .i64), .dat QdY]⟩⟩]
abbrev Qf.τ : Type := Qe3 
def Qf.c (k : Nat) {ρ : Type} (e : Qe2) (b0 : Qe4) (b1 : Qe6) (K : Qf.τ → Option ρ) : Option ρ :=
  (Qf.p0 k (((), ((), ((), (b0.2.2.2.1, ())))), (b1, (((e.1.1, (e.1.2.1, (e.1.2.2.1, (e.1.2.2.2.1, (e.1.2.2.2.2.1, (e.1.2.2.2.2.2.1, ())))))), (e.2.1, (e.2.2.1, (e.2.2.2.1, (e.2.2.2.2.1, (e.2.2.2.2.2.1, ())))))), ())))).bind fun t3 => (match t3 with
 | .inl t4 => (K (t4.1, (((), ((), ((), (t4.2.1.2.2.2.1, ())))), (t4.2.2.1, ()))))
 | .inr (t5) => (let v6 : (List Int) := t5.2.2.1.1.2.1
  let v7 : Int := (Option.getD (mget (Ty.arr 32 (Ty.int IntKind.u8)) v6 t5.2.1) (0 : Int))
  bif (!(Option.isSome (mget (Ty.arr 32 (Ty.int IntKind.u8)) v6 t5.2.1))) then (K (true, (((), ((), ((), (t5.1.2.2.2.1, ())))), (t5.2.1, ())))) else (none)))
def Qf (k : Nat) (e : Qe2) (b0 : Qe4) (b1 : Qe6) : Option Qf.τ := Qf.c k e b0 b1 some
def Qf.T : Q1g := ⟨[.ptr 0 [], .dat QdY], [.pair (.nilp) (.pair (.mp 1) (.pair (.nils) (.dat Qe5))), .mpd Qe7 (.int .i64)], 2⟩
def Qf.os : List Out := [⟨.ret, [.freeze (.slot 0), .auto 2], ⟨[.dat .bool], [.pair (.nilp) (.pair (.mp 1) (.pair (.nils) (.dat Qe5))), .mpd Qe7 (.int .i64)]⟩⟩]
def Qf.sem (k : Nat) : Qr := Q1j Qf.T Qf.os fun x => Qf k x.1 x.2.1 x.2.2.1
noncomputable def Qf.ctx (k : Nat) : Ctx := ⟨Tryz.prog, gam [(46, (Q0O.sem k))]⟩
theorem Qf.gok (k : Nat) : ∀ f, Qm Tryz.prog f ((Qf.ctx k).Γ f) := (Q8 (Q0O.sem_ok k) QK)
theorem Qf.p0.is (k : Nat) : Q2G (Qf.ctx k) (Q0y (Func.code Tryz.f67) [1, 0]) (.nil) Qf.p0.T Qf.p0.os (Qf.p0.r k) := by
 intro ρ x K; kernel_rfl
theorem Qf.p0.ok (k : Nat) : StOK 2 Tryz.prog (Q0y (Func.code Tryz.f67) [1, 0]) (QO Qf.p0.T Qf.p0.os (Qf.p0 k)) :=
 Q2w (C := Qf.ctx k) (T := Qf.p0.T) (os := Qf.p0.os) (Qf.gok k) Tryz.mix (fun x K => Qf.p0.r k x K) Q1.nil (by kernel_rfl) (by kernel_rfl) (Qf.p0.is k)
def Qf.ann (k : Nat) : Ann := .node [] none (.nil) (.node [] none (.node [.mask [0, 3], .auto 2] (some (QO Qf.p0.T Qf.p0.os (Qf.p0 k))) .nil .nil) (.nil))
theorem Qf.body (k : Nat) : Q1n (Qf.ctx k) Tryz.f67 (Func.code Tryz.f67) (Qf.ann k) Qf.T Qf.os (fun x K => Qf.c k x.1 x.2.1 x.2.2.1 K) := by
 intro ρ x K; kernel_rfl
theorem Qf.sem_ok (k : Nat) : Qm Tryz.prog 67 (Qf.sem k) :=
 Q0U (C := Qf.ctx k) (Qf.gok k) Tryz.mix (c := Func.code Tryz.f67) (ann := Qf.ann k) (T := Qf.T) (os := Qf.os) (fun x K => Qf.c k x.1 x.2.1 x.2.2.1 K) Tryz.func67 (by kernel_rfl) (by kernel_rfl) (Q1.seq Q1.nil (Q1.seq (Q1.loop (by kernel_rfl) (Qf.p0.ok k)) Q1.nil)) (Qf.body k) (by kernel_rfl) (by kernel_rfl) (by kernel_rfl)
abbrev Q0x.τ : Type := Qe0 
def Q0x.c (k : Nat) {ρ : Type} (e : Qe2) (b0 : Qe4) (b1 : Qe6) (K : Q0x.τ → Option ρ) : Option ρ :=
 (Q0O k (e.1.1, (e.1.2.1, (e.1.2.2.1, (e.1.2.2.2.1, (e.1.2.2.2.2.1, (e.1.2.2.2.2.2.1, ()))))))).bind fun t0 => let v1 : (List Int) := t0.1
 let v2 : Int := (Option.getD (mget (Ty.arr 32 (Ty.int IntKind.u8)) v1 b1) (0 : Int))
 bif (Option.isSome (mget (Ty.arr 32 (Ty.int IntKind.u8)) v1 b1)) then (none) else (let v3 : (List Int) := t0.1
 bif (Nat.ble ((List.length (List.set (List.replicate 1 (((0 : Int), ((List.replicate 32 (0 : Int)), ((List.replicate 32 (0 : Int)), ((0 : Int), ((0 : Int), ((0 : Int), ())))))), ((0 : Int), ((0 : Int), ((0 : Int), ((0 : Int), ((0 : Int), ()))))))) 0 ((e.1.1, (e.1.2.1, (e.1.2.2.1, (e.1.2.2.2.1, (e.1.2.2.2.2.1, (e.1.2.2.2.2.2.1, ())))))), (e.2.1, (e.2.2.1, (e.2.2.2.1, (e.2.2.2.2.1, (e.2.2.2.2.2.1, ())))))))) * 120) 140737488355328) then (K (((), ((), ((), (b0.2.2.2.1, ())))), ((mset (Ty.arr 32 (Ty.int IntKind.u8)) v3 (0 : Int) b1), ((List.set (List.replicate 1 (((0 : Int), ((List.replicate 32 (0 : Int)), ((List.replicate 32 (0 : Int)), ((0 : Int), ((0 : Int), ((0 : Int), ())))))), ((0 : Int), ((0 : Int), ((0 : Int), ((0 : Int), ((0 : Int), ()))))))) 0 ((e.1.1, (e.1.2.1, (e.1.2.2.1, (e.1.2.2.2.1, (e.1.2.2.2.2.1, (e.1.2.2.2.2.2.1, ())))))), (e.2.1, (e.2.2.1, (e.2.2.2.1, (e.2.2.2.2.1, (e.2.2.2.2.2.1, ()))))))), ())))) else (none))
def Q0x (k : Nat) (e : Qe2) (b0 : Qe4) (b1 : Qe6) : Option Q0x.τ := Q0x.c k e b0 b1 some
def Q0x.T : Q1g := ⟨[.ptr 0 [], .dat QdY], [.pair (.nilp) (.pair (.mp 1) (.pair (.nils) (.dat Qe5))), .mpd Qe7 (.int .i64)], 2⟩
def Q0x.os : List Out := [⟨.ret, [.auto 2], ⟨[], [.pair (.nilp) (.pair (.mp 1) (.pair (.vsl 2) (.dat Qe5))), .mpd Qe7 (.int .i64), .vec QdY]⟩⟩]
def Q0x.sem (k : Nat) : Qr := Q1j Q0x.T Q0x.os fun x => Q0x k x.1 x.2.1 x.2.2.1
noncomputable def Q0x.ctx (k : Nat) : Ctx := ⟨Tryz.prog, gam [(46, (Q0O.sem k))]⟩
theorem Q0x.gok (k : Nat) : ∀ f, Qm Tryz.prog f ((Q0x.ctx k).Γ f) := (Q8 (Q0O.sem_ok k) QK)
def Q0x.ann (k : Nat) : Ann := .nil
theorem Q0x.body (k : Nat) : Q1n (Q0x.ctx k) Tryz.f68 (Func.code Tryz.f68) (Q0x.ann k) Q0x.T Q0x.os (fun x K => Q0x.c k x.1 x.2.1 x.2.2.1 K) := by
 intro ρ x K; kernel_rfl
theorem Q0x.sem_ok (k : Nat) : Qm Tryz.prog 68 (Q0x.sem k) :=
 Q0U (C := Q0x.ctx k) (Q0x.gok k) Tryz.mix (c := Func.code Tryz.f68) (ann := Q0x.ann k) (T := Q0x.T) (os := Q0x.os) (fun x K => Q0x.c k x.1 x.2.1 x.2.2.1 K) Tryz.func68 (by kernel_rfl) (by kernel_rfl) Q1.nil (Q0x.body k) (by kernel_rfl) (by kernel_rfl) (by kernel_rfl)
abbrev Qb.p0.σ : Type := Qe4 × Qe6 × Qe1 × Qe2 × Unit
abbrev Qb.p0.τ : Type := QdZ ⊕ (Qe4 × Qe6 × Qe1 × Qe2 × Unit)
def Qb.p0.r (k : Nat) {ρ : Type} (x : Qb.p0.σ) (K : Qb.p0.τ → Option ρ) : Option ρ :=
 (Q0O k (x.2.2.2.1.1.1, (x.2.2.2.1.1.2.1, (x.2.2.2.1.1.2.2.1, (x.2.2.2.1.1.2.2.2.1, (x.2.2.2.1.1.2.2.2.2.1, (x.2.2.2.1.1.2.2.2.2.2.1, ()))))))).bind fun t0 => let v1 : Int := (Option.getD (mget (Ty.arr 32 (Ty.int IntKind.u8)) t0.1 x.2.1) (0 : Int))
 bif (Option.isSome (mget (Ty.arr 32 (Ty.int IntKind.u8)) t0.1 x.2.1)) then (K (.inl (false, (((), ((), ((), (x.1.2.2.2.1, ())))), (x.2.1, (x.2.2.1, ())))))) else (let v2 : Int := x.2.2.2.1.2.1
 bif (v2 == (0 : Int)) then (K (.inl (false, (((), ((), ((), (x.1.2.2.2.1, ())))), (x.2.1, (x.2.2.1, ())))))) else (K (.inr (((), ((), ((), (x.1.2.2.2.1, ())))), (x.2.1, (x.2.2.1, (((x.2.2.2.1.1.1, (x.2.2.2.1.1.2.1, (x.2.2.2.1.1.2.2.1, (x.2.2.2.1.1.2.2.2.1, (x.2.2.2.1.1.2.2.2.2.1, (x.2.2.2.1.1.2.2.2.2.2.1, ())))))), (x.2.2.2.1.2.1, (x.2.2.2.1.2.2.1, (x.2.2.2.1.2.2.2.1, (x.2.2.2.1.2.2.2.2.1, (x.2.2.2.1.2.2.2.2.2.1, ())))))), ())))))))
def Qb.p0 (k : Nat) (x : Qb.p0.σ) : Option Qb.p0.τ := Qb.p0.r k x some
def Qb.p0.T : StT := ⟨.ptr 0 [] :: us 2 ++ .ptr 3 [] :: us 49, [.pair (.nilp) (.pair (.mp 1) (.pair (.vsl 2) (.dat Qe5))), .mpd Qe7 (.int .i64), .vec QdY, .dat QdY]⟩
def Qb.p0.os : List Out := [⟨.ret, [.mask [4], .auto 2], ⟨us 4 ++ .dat .bool :: us 48, [.pair (.nilp) (.pair (.mp 1) (.pair (.vsl 2) (.dat Qe5))), .mpd Qe7 (.int .i64), .vec QdY]⟩⟩, ⟨.normal, [.mask [0, 3], .auto 2], ⟨.ptr 0 [] :: us 2 ++ .ptr 3 [] :: us 49, [.pair (.nilp) (.pair (.mp 1) (.pair (.vsl 2) (.dat Qe5))), .mpd Qe7 (.int .i64), .vec QdY, .dat QdY]⟩⟩]
abbrev Qb.τ : Type := QdZ 
def Qb.c (k : Nat) {ρ : Type} (e : Qe2) (b0 : Qe4) (b1 : Qe6) (b2 : Qe1) (K : Qb.τ → Option ρ) : Option ρ :=
  (Qb.p0 k (((), ((), ((), (b0.2.2.2.1, ())))), (b1, (b2, (((e.1.1, (e.1.2.1, (e.1.2.2.1, (e.1.2.2.2.1, (e.1.2.2.2.2.1, (e.1.2.2.2.2.2.1, ())))))), (e.2.1, (e.2.2.1, (e.2.2.2.1, (e.2.2.2.2.1, (e.2.2.2.2.2.1, ())))))), ()))))).bind fun t3 => (match t3 with
 | .inl t4 => (K (t4.1, (((), ((), ((), (t4.2.1.2.2.2.1, ())))), (t4.2.2.1, (t4.2.2.2.1, ())))))
 | .inr (t5) => (let v6 : (List Int) := t5.2.2.2.1.1.2.1
  let v7 : Int := (Option.getD (mget (Ty.arr 32 (Ty.int IntKind.u8)) v6 t5.2.1) (0 : Int))
  bif (!(Option.isSome (mget (Ty.arr 32 (Ty.int IntKind.u8)) v6 t5.2.1))) then (K (true, (((), ((), ((), (t5.1.2.2.2.1, ())))), (t5.2.1, (t5.2.2.1, ()))))) else (bif (decide (((0 : Int) ≤ v7) ∧ (v7 < (((List.length t5.2.2.1) : Nat) : Int)))) then (let v8 : Int := (List.getD t5.2.2.1 (Int.toNat v7) (((0 : Int), ((List.replicate 32 (0 : Int)), ((List.replicate 32 (0 : Int)), ((0 : Int), ((0 : Int), ((0 : Int), ())))))), ((0 : Int), ((0 : Int), ((0 : Int), ((0 : Int), ((0 : Int), ()))))))).2.1
  let v9 : Int := t5.2.2.2.1.2.1
  let v10 : Int := (IntKind.wrap IntKind.i64 (v9 - (1 : Int)))
  K ((v8 != v10), (((), ((), ((), (t5.1.2.2.2.1, ())))), (t5.2.1, (t5.2.2.1, ()))))) else (none))))
def Qb (k : Nat) (e : Qe2) (b0 : Qe4) (b1 : Qe6) (b2 : Qe1) : Option Qb.τ := Qb.c k e b0 b1 b2 some
def Qb.T : Q1g := ⟨[.ptr 0 [], .dat QdY], [.pair (.nilp) (.pair (.mp 1) (.pair (.vsl 2) (.dat Qe5))), .mpd Qe7 (.int .i64), .vec QdY], 2⟩
def Qb.os : List Out := [⟨.ret, [.freeze (.slot 0), .auto 2], ⟨[.dat .bool], [.pair (.nilp) (.pair (.mp 1) (.pair (.vsl 2) (.dat Qe5))), .mpd Qe7 (.int .i64), .vec QdY]⟩⟩]
def Qb.sem (k : Nat) : Qr := Q1j Qb.T Qb.os fun x => Qb k x.1 x.2.1 x.2.2.1 x.2.2.2.1
noncomputable def Qb.ctx (k : Nat) : Ctx := ⟨Tryz.prog, gam [(46, (Q0O.sem k))]⟩
theorem Qb.gok (k : Nat) : ∀ f, Qm Tryz.prog f ((Qb.ctx k).Γ f) := (Q8 (Q0O.sem_ok k) QK)
theorem Qb.p0.is (k : Nat) : Q2G (Qb.ctx k) (Q0y (Func.code Tryz.f67) [1, 0]) (.nil) Qb.p0.T Qb.p0.os (Qb.p0.r k) := by
 intro ρ x K; kernel_rfl
theorem Qb.p0.ok (k : Nat) : StOK 2 Tryz.prog (Q0y (Func.code Tryz.f67) [1, 0]) (QO Qb.p0.T Qb.p0.os (Qb.p0 k)) :=
 Q2w (C := Qb.ctx k) (T := Qb.p0.T) (os := Qb.p0.os) (Qb.gok k) Tryz.mix (fun x K => Qb.p0.r k x K) Q1.nil (by kernel_rfl) (by kernel_rfl) (Qb.p0.is k)
def Qb.ann (k : Nat) : Ann := .node [] none (.nil) (.node [] none (.node [.mask [0, 3], .auto 2] (some (QO Qb.p0.T Qb.p0.os (Qb.p0 k))) .nil .nil) (.nil))
theorem Qb.body (k : Nat) : Q1n (Qb.ctx k) Tryz.f67 (Func.code Tryz.f67) (Qb.ann k) Qb.T Qb.os (fun x K => Qb.c k x.1 x.2.1 x.2.2.1 x.2.2.2.1 K) := by
 intro ρ x K; kernel_rfl
theorem Qb.sem_ok (k : Nat) : Qm Tryz.prog 67 (Qb.sem k) :=
 Q0U (C := Qb.ctx k) (Qb.gok k) Tryz.mix (c := Func.code Tryz.f67) (ann := Qb.ann k) (T := Qb.T) (os := Qb.os) (fun x K => Qb.c k x.1 x.2.1 x.2.2.1 x.2.2.2.1 K) Tryz.func67 (by kernel_rfl) (by kernel_rfl) (Q1.seq Q1.nil (Q1.seq (Q1.loop (by kernel_rfl) (Qb.p0.ok k)) Q1.nil)) (Qb.body k) (by kernel_rfl) (by kernel_rfl) (by kernel_rfl)
abbrev Q05.τ : Type := Qe0 
def Q05.c (k : Nat) {ρ : Type} (e : Qe2) (b0 : Qe4) (b1 : Qe6) (b2 : Qe1) (K : Q05.τ → Option ρ) : Option ρ :=
 (Q0O k (e.1.1, (e.1.2.1, (e.1.2.2.1, (e.1.2.2.2.1, (e.1.2.2.2.2.1, (e.1.2.2.2.2.2.1, ()))))))).bind fun t0 => let v1 : (List Int) := t0.1
 let v2 : Int := (Option.getD (mget (Ty.arr 32 (Ty.int IntKind.u8)) v1 b1) (0 : Int))
 bif (Option.isSome (mget (Ty.arr 32 (Ty.int IntKind.u8)) v1 b1)) then (bif (decide (((0 : Int) ≤ v2) ∧ (v2 < (((List.length b2) : Nat) : Int)))) then (K (((), ((), ((), (b0.2.2.2.1, ())))), (b1, ((List.set b2 (Int.toNat v2) ((e.1.1, (e.1.2.1, (e.1.2.2.1, (e.1.2.2.2.1, (e.1.2.2.2.2.1, (e.1.2.2.2.2.2.1, ())))))), (e.2.1, (e.2.2.1, (e.2.2.2.1, (e.2.2.2.2.1, (e.2.2.2.2.2.1, ()))))))), ())))) else (none)) else (let v3 : (List Int) := t0.1
 let v4 : Int := (((List.length b2) : Nat) : Int)
 bif (Nat.ble (((List.length b2) + (List.length (List.set (List.replicate 1 (((0 : Int), ((List.replicate 32 (0 : Int)), ((List.replicate 32 (0 : Int)), ((0 : Int), ((0 : Int), ((0 : Int), ())))))), ((0 : Int), ((0 : Int), ((0 : Int), ((0 : Int), ((0 : Int), ()))))))) 0 ((e.1.1, (e.1.2.1, (e.1.2.2.1, (e.1.2.2.2.1, (e.1.2.2.2.2.1, (e.1.2.2.2.2.2.1, ())))))), (e.2.1, (e.2.2.1, (e.2.2.2.1, (e.2.2.2.2.1, (e.2.2.2.2.2.1, ()))))))))) * 120) 140737488355328) then (K (((), ((), ((), (b0.2.2.2.1, ())))), ((mset (Ty.arr 32 (Ty.int IntKind.u8)) v3 v4 b1), ((b2 ++ (List.set (List.replicate 1 (((0 : Int), ((List.replicate 32 (0 : Int)), ((List.replicate 32 (0 : Int)), ((0 : Int), ((0 : Int), ((0 : Int), ())))))), ((0 : Int), ((0 : Int), ((0 : Int), ((0 : Int), ((0 : Int), ()))))))) 0 ((e.1.1, (e.1.2.1, (e.1.2.2.1, (e.1.2.2.2.1, (e.1.2.2.2.2.1, (e.1.2.2.2.2.2.1, ())))))), (e.2.1, (e.2.2.1, (e.2.2.2.1, (e.2.2.2.2.1, (e.2.2.2.2.2.1, ())))))))), ())))) else (none))
def Q05 (k : Nat) (e : Qe2) (b0 : Qe4) (b1 : Qe6) (b2 : Qe1) : Option Q05.τ := Q05.c k e b0 b1 b2 some
def Q05.T : Q1g := ⟨[.ptr 0 [], .dat QdY], [.pair (.nilp) (.pair (.mp 1) (.pair (.vsl 2) (.dat Qe5))), .mpd Qe7 (.int .i64), .vec QdY], 2⟩
def Q05.os : List Out := [⟨.ret, [.auto 2], ⟨[], [.pair (.nilp) (.pair (.mp 1) (.pair (.vsl 2) (.dat Qe5))), .mpd Qe7 (.int .i64), .vec QdY]⟩⟩]
def Q05.sem (k : Nat) : Qr := Q1j Q05.T Q05.os fun x => Q05 k x.1 x.2.1 x.2.2.1 x.2.2.2.1
noncomputable def Q05.ctx (k : Nat) : Ctx := ⟨Tryz.prog, gam [(46, (Q0O.sem k))]⟩
theorem Q05.gok (k : Nat) : ∀ f, Qm Tryz.prog f ((Q05.ctx k).Γ f) := (Q8 (Q0O.sem_ok k) QK)
def Q05.ann (k : Nat) : Ann := .nil
theorem Q05.body (k : Nat) : Q1n (Q05.ctx k) Tryz.f68 (Func.code Tryz.f68) (Q05.ann k) Q05.T Q05.os (fun x K => Q05.c k x.1 x.2.1 x.2.2.1 x.2.2.2.1 K) := by
 intro ρ x K; kernel_rfl
theorem Q05.sem_ok (k : Nat) : Qm Tryz.prog 68 (Q05.sem k) :=
 Q0U (C := Q05.ctx k) (Q05.gok k) Tryz.mix (c := Func.code Tryz.f68) (ann := Q05.ann k) (T := Q05.T) (os := Q05.os) (fun x K => Q05.c k x.1 x.2.1 x.2.2.1 x.2.2.2.1 K) Tryz.func68 (by kernel_rfl) (by kernel_rfl) Q1.nil (Q05.body k) (by kernel_rfl) (by kernel_rfl) (by kernel_rfl)
abbrev QB.τ : Type := (Int × Unit)
def QB.c (k : Nat) {ρ : Type}  (K : QB.τ → Option ρ) : Option ρ :=
 K ((0 : Int), ())
def QB (k : Nat)  : Option QB.τ := QB.c k  some
def QB.T : Q1g := ⟨[.nilp], [], 0⟩
def QB.os : List Out := [⟨.ret, [.freeze (.slot 0), .auto 0], ⟨[.dat (.int .i64)], []⟩⟩]
def QB.sem (k : Nat) : Qr := Q1j QB.T QB.os fun x => QB k 
noncomputable def QB.ctx (k : Nat) : Ctx := ⟨Tryz.prog, gam []⟩
theorem QB.gok (k : Nat) : ∀ f, Qm Tryz.prog f ((QB.ctx k).Γ f) := QK
def QB.ann (k : Nat) : Ann := .nil
theorem QB.body (k : Nat) : Q1n (QB.ctx k) Tryz.f69 (Func.code Tryz.f69) (QB.ann k) QB.T QB.os (fun x K => QB.c k  K) := by
 intro ρ x K; kernel_rfl
theorem QB.sem_ok (k : Nat) : Qm Tryz.prog 69 (QB.sem k) :=
 Q0U (C := QB.ctx k) (QB.gok k) Tryz.mix (c := Func.code Tryz.f69) (ann := QB.ann k) (T := QB.T) (os := QB.os) (fun x K => QB.c k  K) Tryz.func69 (by kernel_rfl) (by kernel_rfl) Q1.nil (QB.body k) (by kernel_rfl) (by kernel_rfl) (by kernel_rfl)
abbrev Qw.τ : Type := (Bool × Unit)
def Qw.c (k : Nat) {ρ : Type}  (K : Qw.τ → Option ρ) : Option ρ :=
 K (true, ())
def Qw (k : Nat)  : Option Qw.τ := Qw.c k  some
def Qw.T : Q1g := ⟨[.nilp], [], 0⟩
def Qw.os : List Out := [⟨.ret, [.freeze (.slot 0), .auto 0], ⟨[.dat .bool], []⟩⟩]
def Qw.sem (k : Nat) : Qr := Q1j Qw.T Qw.os fun x => Qw k 
noncomputable def Qw.ctx (k : Nat) : Ctx := ⟨Tryz.prog, gam []⟩
theorem Qw.gok (k : Nat) : ∀ f, Qm Tryz.prog f ((Qw.ctx k).Γ f) := QK
def Qw.ann (k : Nat) : Ann := .nil
theorem Qw.body (k : Nat) : Q1n (Qw.ctx k) Tryz.f103 (Func.code Tryz.f103) (Qw.ann k) Qw.T Qw.os (fun x K => Qw.c k  K) := by
 intro ρ x K; kernel_rfl
theorem Qw.sem_ok (k : Nat) : Qm Tryz.prog 103 (Qw.sem k) :=
 Q0U (C := Qw.ctx k) (Qw.gok k) Tryz.mix (c := Func.code Tryz.f103) (ann := Qw.ann k) (T := Qw.T) (os := Qw.os) (fun x K => Qw.c k  K) Tryz.func103 (by kernel_rfl) (by kernel_rfl) Q1.nil (Qw.body k) (by kernel_rfl) (by kernel_rfl) (by kernel_rfl)
abbrev Qu.τ : Type := (Int × Unit)
def Qu.c (k : Nat) {ρ : Type}  (K : Qu.τ → Option ρ) : Option ρ :=
 (Qw k ).bind fun t0 => bif t0.1 then (K ((7 : Int), ())) else (K ((0 : Int), ()))
def Qu (k : Nat)  : Option Qu.τ := Qu.c k  some
def Qu.T : Q1g := ⟨[.nilp], [], 0⟩
def Qu.os : List Out := [⟨.ret, [.freeze (.slot 0), .auto 0], ⟨[.dat (.int .i64)], []⟩⟩]
def Qu.sem (k : Nat) : Qr := Q1j Qu.T Qu.os fun x => Qu k 
noncomputable def Qu.ctx (k : Nat) : Ctx := ⟨Tryz.prog, gam [(103, (Qw.sem k))]⟩
theorem Qu.gok (k : Nat) : ∀ f, Qm Tryz.prog f ((Qu.ctx k).Γ f) := (Q8 (Qw.sem_ok k) QK)
def Qu.ann (k : Nat) : Ann := .nil
theorem Qu.body (k : Nat) : Q1n (Qu.ctx k) Tryz.f62 (Func.code Tryz.f62) (Qu.ann k) Qu.T Qu.os (fun x K => Qu.c k  K) := by
 intro ρ x K; kernel_rfl
theorem Qu.sem_ok (k : Nat) : Qm Tryz.prog 62 (Qu.sem k) :=
 Q0U (C := Qu.ctx k) (Qu.gok k) Tryz.mix (c := Func.code Tryz.f62) (ann := Qu.ann k) (T := Qu.T) (os := Qu.os) (fun x K => Qu.c k  K) Tryz.func62 (by kernel_rfl) (by kernel_rfl) Q1.nil (Qu.body k) (by kernel_rfl) (by kernel_rfl) (by kernel_rfl)
abbrev Q5.p0.σ : Type := Int × Unit
abbrev Q5.p0.τ : Type := (Int × Unit)
def Q5.p0.r (k : Nat) {ρ : Type} (x : Q5.p0.σ) (K : Q5.p0.τ → Option ρ) : Option ρ :=
 bif (decide (x.1 < (0 : Int))) then (K ((1 : Int), ())) else (none)
def Q5.p0 (k : Nat) (x : Q5.p0.σ) : Option Q5.p0.τ := Q5.p0.r k x some
def Q5.p0.T : StT := ⟨.nilp :: .dat (.int .i64) :: us 67, []⟩
def Q5.p0.os : List Out := [⟨.ret, [.mask [4], .auto 0], ⟨us 4 ++ .dat (.int .i64) :: us 64, []⟩⟩]
abbrev Q5.τ : Type := (Int × Unit)
def Q5.c (k : Nat) {ρ : Type} (n : Int) (K : Q5.τ → Option ρ) : Option ρ :=
 (Qu k ).bind fun t0 => bif (t0.1 != (0 : Int)) then (K (t0.1, ())) else ((Q5.p0 k (n, ())).bind fun t1 => K (t1.1, ()))
def Q5 (k : Nat) (n : Int) : Option Q5.τ := Q5.c k n some
def Q5.T : Q1g := ⟨[.nilp, .dat (.int .i64)], [], 0⟩
def Q5.os : List Out := [⟨.ret, [.freeze (.slot 0), .auto 0], ⟨[.dat (.int .i64)], []⟩⟩]
def Q5.sem (k : Nat) : Qr := Q1j Q5.T Q5.os fun x => Q5 k x.1
noncomputable def Q5.ctx (k : Nat) : Ctx := ⟨Tryz.prog, gam [(62, (Qu.sem k))]⟩
theorem Q5.gok (k : Nat) : ∀ f, Qm Tryz.prog f ((Q5.ctx k).Γ f) := (Q8 (Qu.sem_ok k) QK)
theorem Q5.p0.is (k : Nat) : Q2G (Q5.ctx k) (Q0y (Func.code Tryz.f70) [1, 1, 0]) (.nil) Q5.p0.T Q5.p0.os (Q5.p0.r k) := by
 intro ρ x K; kernel_rfl
theorem Q5.p0.ok (k : Nat) : StOK 0 Tryz.prog (Q0y (Func.code Tryz.f70) [1, 1, 0]) (QO Q5.p0.T Q5.p0.os (Q5.p0 k)) :=
 Q2w (C := Q5.ctx k) (T := Q5.p0.T) (os := Q5.p0.os) (Q5.gok k) Tryz.mix (fun x K => Q5.p0.r k x K) Q1.nil (by kernel_rfl) (by kernel_rfl) (Q5.p0.is k)
def Q5.ann (k : Nat) : Ann := .node [] none (.nil) (.node [] none (.nil) (.node [] none (.node [] (some (QO Q5.p0.T Q5.p0.os (Q5.p0 k))) .nil .nil) (.nil)))
theorem Q5.body (k : Nat) : Q1n (Q5.ctx k) Tryz.f70 (Func.code Tryz.f70) (Q5.ann k) Q5.T Q5.os (fun x K => Q5.c k x.1 K) := by
 intro ρ x K; kernel_rfl
theorem Q5.sem_ok (k : Nat) : Qm Tryz.prog 70 (Q5.sem k) :=
 Q0U (C := Q5.ctx k) (Q5.gok k) Tryz.mix (c := Func.code Tryz.f70) (ann := Q5.ann k) (T := Q5.T) (os := Q5.os) (fun x K => Q5.c k x.1 K) Tryz.func70 (by kernel_rfl) (by kernel_rfl) (Q1.seq Q1.nil (Q1.seq Q1.nil (Q1.seq (Q1.loop (by kernel_rfl) (Q5.p0.ok k)) Q1.nil))) (Q5.body k) (by kernel_rfl) (by kernel_rfl) (by kernel_rfl)
abbrev Qt.τ : Type := (Int × Unit)
def Qt.c (k : Nat) {ρ : Type}  (K : Qt.τ → Option ρ) : Option ρ :=
 (Qu k ).bind fun t0 => bif (t0.1 != (0 : Int)) then (K (t0.1, ())) else (none)
def Qt (k : Nat)  : Option Qt.τ := Qt.c k  some
def Qt.T : Q1g := ⟨[.nilp], [], 0⟩
def Qt.os : List Out := [⟨.ret, [.freeze (.slot 0), .auto 0], ⟨[.dat (.int .i64)], []⟩⟩]
def Qt.sem (k : Nat) : Qr := Q1j Qt.T Qt.os fun x => Qt k 
noncomputable def Qt.ctx (k : Nat) : Ctx := ⟨Tryz.prog, gam [(62, (Qu.sem k))]⟩
theorem Qt.gok (k : Nat) : ∀ f, Qm Tryz.prog f ((Qt.ctx k).Γ f) := (Q8 (Qu.sem_ok k) QK)
def Qt.ann (k : Nat) : Ann := .nil
theorem Qt.body (k : Nat) : Q1n (Qt.ctx k) Tryz.f71 (Func.code Tryz.f71) (Qt.ann k) Qt.T Qt.os (fun x K => Qt.c k  K) := by
 intro ρ x K; kernel_rfl
theorem Qt.sem_ok (k : Nat) : Qm Tryz.prog 71 (Qt.sem k) :=
 Q0U (C := Qt.ctx k) (Qt.gok k) Tryz.mix (c := Func.code Tryz.f71) (ann := Qt.ann k) (T := Qt.T) (os := Qt.os) (fun x K => Qt.c k  K) Tryz.func71 (by kernel_rfl) (by kernel_rfl) Q1.nil (Qt.body k) (by kernel_rfl) (by kernel_rfl) (by kernel_rfl)
abbrev QG.l0.σ : Type := Int × (List ByteArray) × Int × Int × Qe4 × Qe6 × Qe1 × Unit
abbrev QG.l0.τ : Type := (Int × Qe4 × Qe6 × Qe1 × Unit)
def QG.l0.r (k : Nat) {ρ : Type} (x : QG.l0.σ) (kn : QG.l0.σ → Option ρ) (ke : QG.l0.τ → Option ρ) : Option ρ :=
 bif (decide (x.2.2.2.1 < x.2.2.1)) then (bif (decide (((0 : Int) ≤ x.2.2.2.1) ∧ (x.2.2.2.1 < (((List.length x.2.1) : Nat) : Int)))) then (let v3 : ByteArray := (List.getD x.2.1 (Int.toNat x.2.2.2.1) ByteArray.empty)
 (Q0W k v3).bind fun t4 => let v5 : Int := t4.2.1
 bif (v5 != (0 : Int)) then (ke (x.1, (((), ((), ((), (x.2.2.2.2.1.2.2.2.1, ())))), (x.2.2.2.2.2.1, (x.2.2.2.2.2.2.1, ()))))) else ((Qb k ((t4.1.1.1, (t4.1.1.2.1, (t4.1.1.2.2.1, (t4.1.1.2.2.2.1, (t4.1.1.2.2.2.2.1, (t4.1.1.2.2.2.2.2.1, ())))))), (t4.1.2.1, (t4.1.2.2.1, (t4.1.2.2.2.1, (t4.1.2.2.2.2.1, (t4.1.2.2.2.2.2.1, ())))))) ((), ((), ((), (x.2.2.2.2.1.2.2.2.1, ())))) x.2.2.2.2.2.1 x.2.2.2.2.2.2.1).bind fun t6 => bif t6.1 then (ke (x.1, (((), ((), ((), (t6.2.1.2.2.2.1, ())))), (t6.2.2.1, (t6.2.2.2.1, ()))))) else ((Q05 k ((t4.1.1.1, (t4.1.1.2.1, (t4.1.1.2.2.1, (t4.1.1.2.2.2.1, (t4.1.1.2.2.2.2.1, (t4.1.1.2.2.2.2.2.1, ())))))), (t4.1.2.1, (t4.1.2.2.1, (t4.1.2.2.2.1, (t4.1.2.2.2.2.1, (t4.1.2.2.2.2.2.1, ())))))) ((), ((), ((), (t6.2.1.2.2.2.1, ())))) t6.2.2.1 t6.2.2.2.1).bind fun t7 => let v8 : Int := (IntKind.wrap IntKind.i64 (x.1 + (1 : Int)))
 let v9 : Int := (IntKind.wrap IntKind.i64 (x.2.2.2.1 + (1 : Int)))
 kn (v8, (x.2.1, (x.2.2.1, (v9, (((), ((), ((), (t7.1.2.2.2.1, ())))), (t7.2.1, (t7.2.2.1, ())))))))))) else (none)) else (ke (x.1, (((), ((), ((), (x.2.2.2.2.1.2.2.2.1, ())))), (x.2.2.2.2.2.1, (x.2.2.2.2.2.2.1, ())))))
def QG.l0 (k : Nat) : Nat → QG.l0.σ → Option QG.l0.τ := Q1c (QG.l0.r k)
def QG.l0.T : StT := ⟨us 7 ++ .nilp :: us 1 ++ .ptr 0 [] :: .dat (.int .i64) :: us 20 ++ .dat (.sl .str) :: .dat (.int .i64) :: .dat (.int .i64) :: us 38, [.pair (.nilp) (.pair (.mp 1) (.pair (.vsl 2) (.dat Qe5))), .mpd Qe7 (.int .i64), .vec QdY]⟩
def QG.l0.os : List Out := [⟨(.exit 0), [.mask [7, 9, 10], .auto 0], ⟨us 7 ++ .nilp :: us 1 ++ .ptr 0 [] :: .dat (.int .i64) :: us 61, [.pair (.nilp) (.pair (.mp 1) (.pair (.vsl 2) (.dat Qe5))), .mpd Qe7 (.int .i64), .vec QdY]⟩⟩]
abbrev QG.τ : Type := (Int × Int × Unit) ⊕ (Int × Int × Qe4 × Qe6 × Qe1 × Unit)
def QG.c (k : Nat) {ρ : Type} (name : ByteArray) (K : QG.τ → Option ρ) : Option ρ :=
 (Q0v k name).bind fun t0 => bif (t0.1 != (0 : Int)) then (K (.inl ((0 : Int), (t0.1, ())))) else ((QC k ).bind fun t1 => let v2 : Int := (((List.length t1.1) : Nat) : Int)
 (QG.l0 k k ((0 : Int), (t1.1, (v2, ((0 : Int), (((), ((), ((), ((0 : Int), ())))), ([], ([], ())))))))).bind fun t10 => (QB k ).bind fun t11 => bif (decide (t10.1 < t11.1)) then ((Q5 k t10.1).bind fun t12 => bif (t12.1 != (0 : Int)) then (K (.inl ((0 : Int), (t12.1, ())))) else ((Qt k ).bind fun t13 => bif (t13.1 != (0 : Int)) then (K (.inl ((0 : Int), (t13.1, ())))) else (K (.inr (t10.1, ((0 : Int), (((), ((), ((), (t10.2.1.2.2.2.1, ())))), (t10.2.2.1, (t10.2.2.2.1, ()))))))))) else (K (.inr (t10.1, ((0 : Int), (((), ((), ((), (t10.2.1.2.2.2.1, ())))), (t10.2.2.1, (t10.2.2.2.1, ()))))))))
def QG (k : Nat) (name : ByteArray) : Option QG.τ := QG.c k name some
def QG.T : Q1g := ⟨[.nilp, .dat .str], [], 0⟩
def QG.os : List Out := [⟨.ret, [.freeze (.slot 1), .freeze (.slot 2), .auto 0], ⟨[.nilp, .dat (.int .i64), .dat (.int .i64)], []⟩⟩, ⟨.ret, [.freeze (.slot 1), .freeze (.slot 2), .auto 0], ⟨[.ptr 0 [], .dat (.int .i64), .dat (.int .i64)], [.pair (.nilp) (.pair (.mp 1) (.pair (.vsl 2) (.dat Qe5))), .mpd Qe7 (.int .i64), .vec QdY]⟩⟩]
def QG.sem (k : Nat) : Qr := Q1j QG.T QG.os fun x => QG k x.1
noncomputable def QG.ctx (k : Nat) : Ctx := ⟨Tryz.prog, gam [(15, (Q0v.sem k)), (21, (QC.sem k)), (8, (Q0W.sem k)), (67, (Qb.sem k)), (68, (Q05.sem k)), (69, (QB.sem k)), (70, (Q5.sem k)), (71, (Qt.sem k))]⟩
theorem QG.gok (k : Nat) : ∀ f, Qm Tryz.prog f ((QG.ctx k).Γ f) := (Q8 (Q0v.sem_ok k) (Q8 (QC.sem_ok k) (Q8 (Q0W.sem_ok k) (Q8 (Qb.sem_ok k) (Q8 (Q05.sem_ok k) (Q8 (QB.sem_ok k) (Q8 (Q5.sem_ok k) (Q8 (Qt.sem_ok k) QK))))))))
theorem QG.l0.round (k : Nat) : Q1b (QG.ctx k) (Q0y (Func.code Tryz.f19) [1, 1, 1, 1, 1, 0, 1, 0, 0]) (.nil) QG.l0.T [.mask [7, 9, 10, 31, 32, 33], .auto 0] QG.l0.os (QG.l0.r k) := by
 intro ρ x kn ke; kernel_rfl
theorem QG.l0.ok (k : Nat) : StOK 0 Tryz.prog (.loop (Q0y (Func.code Tryz.f19) [1, 1, 1, 1, 1, 0, 1, 0, 0])) (QO QG.l0.T QG.l0.os (QG.l0 k k)) :=
 Q1e (C := QG.ctx k) (QG.gok k) Tryz.mix Q1.nil (by kernel_rfl) (by kernel_rfl) (by kernel_rfl) (QG.l0.round k) k
def QG.ann (k : Nat) : Ann := .node [] none (.nil) (.node [] none (.nil) (.node [] none (.nil) (.node [] none (.nil) (.node [] none (.nil) (.node [] none (.node [] none (.nil) (.node [] none (.node [.mask [7, 9, 10, 31, 32, 33], .auto 0, .own (.blk 0 [2]) QdY] (some (QO QG.l0.T QG.l0.os (QG.l0 k k))) .nil .nil) (.nil))) (.nil))))))
theorem QG.body (k : Nat) : Q1n (QG.ctx k) Tryz.f19 (Func.code Tryz.f19) (QG.ann k) QG.T QG.os (fun x K => QG.c k x.1 K) := by
 intro ρ x K; kernel_rfl
theorem QG.sem_ok (k : Nat) : Qm Tryz.prog 19 (QG.sem k) :=
 Q0U (C := QG.ctx k) (QG.gok k) Tryz.mix (c := Func.code Tryz.f19) (ann := QG.ann k) (T := QG.T) (os := QG.os) (fun x K => QG.c k x.1 K) Tryz.func19 (by kernel_rfl) (by kernel_rfl) (Q1.seq Q1.nil (Q1.seq Q1.nil (Q1.seq Q1.nil (Q1.seq Q1.nil (Q1.seq Q1.nil (Q1.seq (Q1.seq Q1.nil (Q1.block (Q1.loop (by kernel_rfl) (QG.l0.ok k)))) Q1.nil)))))) (QG.body k) (by kernel_rfl) (by kernel_rfl) (by kernel_rfl)
abbrev Q01.τ : Type := (Int × Unit)
def Q01.c (k : Nat) {ρ : Type} (e : Qe2) (K : Q01.τ → Option ρ) : Option ρ :=
 K ((1 : Int), ())
def Q01 (k : Nat) (e : Qe2) : Option Q01.τ := Q01.c k e some
def Q01.T : Q1g := ⟨[.nilp, .dat QdY], [], 0⟩
def Q01.os : List Out := [⟨.ret, [.freeze (.slot 0), .auto 0], ⟨[.dat (.int .i64)], []⟩⟩]
def Q01.sem (k : Nat) : Qr := Q1j Q01.T Q01.os fun x => Q01 k x.1
noncomputable def Q01.ctx (k : Nat) : Ctx := ⟨Tryz.prog, gam []⟩
theorem Q01.gok (k : Nat) : ∀ f, Qm Tryz.prog f ((Q01.ctx k).Γ f) := QK
def Q01.ann (k : Nat) : Ann := .nil
theorem Q01.body (k : Nat) : Q1n (Q01.ctx k) Tryz.f25 (Func.code Tryz.f25) (Q01.ann k) Q01.T Q01.os (fun x K => Q01.c k x.1 K) := by
 intro ρ x K; kernel_rfl
theorem Q01.sem_ok (k : Nat) : Qm Tryz.prog 25 (Q01.sem k) :=
 Q0U (C := Q01.ctx k) (Q01.gok k) Tryz.mix (c := Func.code Tryz.f25) (ann := Q01.ann k) (T := Q01.T) (os := Q01.os) (fun x K => Q01.c k x.1 K) Tryz.func25 (by kernel_rfl) (by kernel_rfl) Q1.nil (Q01.body k) (by kernel_rfl) (by kernel_rfl) (by kernel_rfl)
abbrev QM.τ : Type := (Int × Unit)
def QM.c (k : Nat) {ρ : Type}  (K : QM.τ → Option ρ) : Option ρ :=
 K ((1 : Int), ())
def QM (k : Nat)  : Option QM.τ := QM.c k  some
def QM.T : Q1g := ⟨[.nilp], [], 0⟩
def QM.os : List Out := [⟨.ret, [.freeze (.slot 0), .auto 0], ⟨[.dat (.int .i64)], []⟩⟩]
def QM.sem (k : Nat) : Qr := Q1j QM.T QM.os fun x => QM k 
noncomputable def QM.ctx (k : Nat) : Ctx := ⟨Tryz.prog, gam []⟩
theorem QM.gok (k : Nat) : ∀ f, Qm Tryz.prog f ((QM.ctx k).Γ f) := QK
def QM.ann (k : Nat) : Ann := .nil
theorem QM.body (k : Nat) : Q1n (QM.ctx k) Tryz.f26 (Func.code Tryz.f26) (QM.ann k) QM.T QM.os (fun x K => QM.c k  K) := by
 intro ρ x K; kernel_rfl
theorem QM.sem_ok (k : Nat) : Qm Tryz.prog 26 (QM.sem k) :=
 Q0U (C := QM.ctx k) (QM.gok k) Tryz.mix (c := Func.code Tryz.f26) (ann := QM.ann k) (T := QM.T) (os := QM.os) (fun x K => QM.c k  K) Tryz.func26 (by kernel_rfl) (by kernel_rfl) Q1.nil (QM.body k) (by kernel_rfl) (by kernel_rfl) (by kernel_rfl)
abbrev Qz.τ : Type := (Int × Unit)
def Qz.c (k : Nat) {ρ : Type}  (K : Qz.τ → Option ρ) : Option ρ :=
 K ((1 : Int), ())
def Qz (k : Nat)  : Option Qz.τ := Qz.c k  some
def Qz.T : Q1g := ⟨[.nilp], [], 0⟩
def Qz.os : List Out := [⟨.ret, [.freeze (.slot 0), .auto 0], ⟨[.dat (.int .i64)], []⟩⟩]
def Qz.sem (k : Nat) : Qr := Q1j Qz.T Qz.os fun x => Qz k 
noncomputable def Qz.ctx (k : Nat) : Ctx := ⟨Tryz.prog, gam []⟩
theorem Qz.gok (k : Nat) : ∀ f, Qm Tryz.prog f ((Qz.ctx k).Γ f) := QK
def Qz.ann (k : Nat) : Ann := .nil
theorem Qz.body (k : Nat) : Q1n (Qz.ctx k) Tryz.f27 (Func.code Tryz.f27) (Qz.ann k) Qz.T Qz.os (fun x K => Qz.c k  K) := by
 intro ρ x K; kernel_rfl
theorem Qz.sem_ok (k : Nat) : Qm Tryz.prog 27 (Qz.sem k) :=
 Q0U (C := Qz.ctx k) (Qz.gok k) Tryz.mix (c := Func.code Tryz.f27) (ann := Qz.ann k) (T := Qz.T) (os := Qz.os) (fun x K => Qz.c k  K) Tryz.func27 (by kernel_rfl) (by kernel_rfl) Q1.nil (Qz.body k) (by kernel_rfl) (by kernel_rfl) (by kernel_rfl)
abbrev QT.τ : Type := (Qe1 × Unit)
def QT.c (k : Nat) {ρ : Type}  (K : QT.τ → Option ρ) : Option ρ :=
 K ([], ())
def QT (k : Nat)  : Option QT.τ := QT.c k  some
def QT.T : Q1g := ⟨[.nilp], [], 0⟩
def QT.os : List Out := [⟨.ret, [.freeze (.slot 0), .auto 0], ⟨[.dat (.sl QdY)], []⟩⟩]
def QT.sem (k : Nat) : Qr := Q1j QT.T QT.os fun x => QT k 
noncomputable def QT.ctx (k : Nat) : Ctx := ⟨Tryz.prog, gam []⟩
theorem QT.gok (k : Nat) : ∀ f, Qm Tryz.prog f ((QT.ctx k).Γ f) := QK
def QT.ann (k : Nat) : Ann := .nil
theorem QT.body (k : Nat) : Q1n (QT.ctx k) Tryz.f28 (Func.code Tryz.f28) (QT.ann k) QT.T QT.os (fun x K => QT.c k  K) := by
 intro ρ x K; kernel_rfl
theorem QT.sem_ok (k : Nat) : Qm Tryz.prog 28 (QT.sem k) :=
 Q0U (C := QT.ctx k) (QT.gok k) Tryz.mix (c := Func.code Tryz.f28) (ann := QT.ann k) (T := QT.T) (os := QT.os) (fun x K => QT.c k  K) Tryz.func28 (by kernel_rfl) (by kernel_rfl) Q1.nil (QT.body k) (by kernel_rfl) (by kernel_rfl) (by kernel_rfl)
abbrev Q02.τ : Type := (Int × Unit)
def Q02.c (k : Nat) {ρ : Type}  (K : Q02.τ → Option ρ) : Option ρ :=
 (QT k ).bind fun t0 => let v1 : Int := (((List.length t0.1) : Nat) : Int)
 K (v1, ())
def Q02 (k : Nat)  : Option Q02.τ := Q02.c k  some
def Q02.T : Q1g := ⟨[.nilp], [], 0⟩
def Q02.os : List Out := [⟨.ret, [.freeze (.slot 0), .auto 0], ⟨[.dat (.int .i64)], []⟩⟩]
def Q02.sem (k : Nat) : Qr := Q1j Q02.T Q02.os fun x => Q02 k 
noncomputable def Q02.ctx (k : Nat) : Ctx := ⟨Tryz.prog, gam [(28, (QT.sem k))]⟩
theorem Q02.gok (k : Nat) : ∀ f, Qm Tryz.prog f ((Q02.ctx k).Γ f) := (Q8 (QT.sem_ok k) QK)
def Q02.ann (k : Nat) : Ann := .nil
theorem Q02.body (k : Nat) : Q1n (Q02.ctx k) Tryz.f29 (Func.code Tryz.f29) (Q02.ann k) Q02.T Q02.os (fun x K => Q02.c k  K) := by
 intro ρ x K; kernel_rfl
theorem Q02.sem_ok (k : Nat) : Qm Tryz.prog 29 (Q02.sem k) :=
 Q0U (C := Q02.ctx k) (Q02.gok k) Tryz.mix (c := Func.code Tryz.f29) (ann := Q02.ann k) (T := Q02.T) (os := Q02.os) (fun x K => Q02.c k  K) Tryz.func29 (by kernel_rfl) (by kernel_rfl) Q1.nil (Q02.body k) (by kernel_rfl) (by kernel_rfl) (by kernel_rfl)
abbrev Qy.τ : Type := (Int × Unit)
def Qy.c (k : Nat) {ρ : Type}  (K : Qy.τ → Option ρ) : Option ρ :=
 K ((0 : Int), ())
def Qy (k : Nat)  : Option Qy.τ := Qy.c k  some
def Qy.T : Q1g := ⟨[.nilp], [], 0⟩
def Qy.os : List Out := [⟨.ret, [.freeze (.slot 0), .auto 0], ⟨[.dat (.int .i64)], []⟩⟩]
def Qy.sem (k : Nat) : Qr := Q1j Qy.T Qy.os fun x => Qy k 
noncomputable def Qy.ctx (k : Nat) : Ctx := ⟨Tryz.prog, gam []⟩
theorem Qy.gok (k : Nat) : ∀ f, Qm Tryz.prog f ((Qy.ctx k).Γ f) := QK
def Qy.ann (k : Nat) : Ann := .nil
theorem Qy.body (k : Nat) : Q1n (Qy.ctx k) Tryz.f23 (Func.code Tryz.f23) (Qy.ann k) Qy.T Qy.os (fun x K => Qy.c k  K) := by
 intro ρ x K; kernel_rfl
theorem Qy.sem_ok (k : Nat) : Qm Tryz.prog 23 (Qy.sem k) :=
 Q0U (C := Qy.ctx k) (Qy.gok k) Tryz.mix (c := Func.code Tryz.f23) (ann := Qy.ann k) (T := Qy.T) (os := Qy.os) (fun x K => Qy.c k  K) Tryz.func23 (by kernel_rfl) (by kernel_rfl) Q1.nil (Qy.body k) (by kernel_rfl) (by kernel_rfl) (by kernel_rfl)
abbrev QN.τ : Type := (Int × Unit)
def QN.c (k : Nat) {ρ : Type}  (K : QN.τ → Option ρ) : Option ρ :=
 K ((0 : Int), ())
def QN (k : Nat)  : Option QN.τ := QN.c k  some
def QN.T : Q1g := ⟨[.nilp], [], 0⟩
def QN.os : List Out := [⟨.ret, [.freeze (.slot 0), .auto 0], ⟨[.dat (.int .i64)], []⟩⟩]
def QN.sem (k : Nat) : Qr := Q1j QN.T QN.os fun x => QN k 
noncomputable def QN.ctx (k : Nat) : Ctx := ⟨Tryz.prog, gam []⟩
theorem QN.gok (k : Nat) : ∀ f, Qm Tryz.prog f ((QN.ctx k).Γ f) := QK
def QN.ann (k : Nat) : Ann := .nil
theorem QN.body (k : Nat) : Q1n (QN.ctx k) Tryz.f30 (Func.code Tryz.f30) (QN.ann k) QN.T QN.os (fun x K => QN.c k  K) := by
 intro ρ x K; kernel_rfl
theorem QN.sem_ok (k : Nat) : Qm Tryz.prog 30 (QN.sem k) :=
 Q0U (C := QN.ctx k) (QN.gok k) Tryz.mix (c := Func.code Tryz.f30) (ann := QN.ann k) (T := QN.T) (os := QN.os) (fun x K => QN.c k  K) Tryz.func30 (by kernel_rfl) (by kernel_rfl) Q1.nil (QN.body k) (by kernel_rfl) (by kernel_rfl) (by kernel_rfl)
def QI.c (k : Nat) {ρ : Type} (e : Qe2) (K : Bool × Unit → Option ρ) : Option ρ :=
  let v0 : (List Int) := (List.replicate 32 (0 : Int))
  (Q04 k v0).bind fun t1 => (QG k (⟨(List.toArray [105, 110, 100, 101, 120])⟩ : ByteArray)).bind fun t2 => (match t2 with
 | .inl t3 => (let v4 : Int := t3.2.1
  (QW k ).bind fun t5 => bif t5.1 then ((Q01 k ((e.1.1, (e.1.2.1, (e.1.2.2.1, (e.1.2.2.2.1, (e.1.2.2.2.2.1, (e.1.2.2.2.2.2.1, ())))))), (e.2.1, (e.2.2.1, (e.2.2.2.1, (e.2.2.2.2.1, (e.2.2.2.2.2.1, ()))))))).bind fun t6 => bif (t6.1 == (1 : Int)) then ((QM k ).bind fun t7 => bif (t7.1 == (1 : Int)) then ((Qz k ).bind fun t8 => bif (t8.1 == (1 : Int)) then (bif (!t1.2.1) then ((QT k ).bind fun t9 => let v10 : Int := (((List.length t9.1) : Nat) : Int)
  bif (v10 == (0 : Int)) then ((Q02 k ).bind fun t11 => bif (t11.1 == (0 : Int)) then ((Qy k ).bind fun t12 => bif (t12.1 == (0 : Int)) then ((QN k ).bind fun t13 => bif (t13.1 == (0 : Int)) then (bif (t3.1 == (0 : Int)) then (K ((v4 == (1 : Int)), ())) else (K (false, ()))) else (K (false, ()))) else (K (false, ()))) else (K (false, ()))) else (K (false, ()))) else (K (false, ()))) else (K (false, ()))) else (K (false, ()))) else (K (false, ()))) else (K (false, ())))
 | .inr (t14) => (let v15 : Int := t14.1
  let v16 : Int := t14.2.1
  (QW k ).bind fun t17 => bif t17.1 then ((Q01 k ((e.1.1, (e.1.2.1, (e.1.2.2.1, (e.1.2.2.2.1, (e.1.2.2.2.2.1, (e.1.2.2.2.2.2.1, ())))))), (e.2.1, (e.2.2.1, (e.2.2.2.1, (e.2.2.2.2.1, (e.2.2.2.2.2.1, ()))))))).bind fun t18 => bif (t18.1 == (1 : Int)) then ((QM k ).bind fun t19 => bif (t19.1 == (1 : Int)) then ((Qz k ).bind fun t20 => bif (t20.1 == (1 : Int)) then (bif (!t1.2.1) then ((QT k ).bind fun t21 => let v22 : Int := (((List.length t21.1) : Nat) : Int)
  bif (v22 == (0 : Int)) then ((Q02 k ).bind fun t23 => bif (t23.1 == (0 : Int)) then ((Qy k ).bind fun t24 => bif (t24.1 == (0 : Int)) then ((QN k ).bind fun t25 => bif (t25.1 == (0 : Int)) then (K (false, ())) else (K (false, ()))) else (K (false, ()))) else (K (false, ()))) else (K (false, ()))) else (K (false, ()))) else (K (false, ()))) else (K (false, ()))) else (K (false, ()))) else (K (false, ()))))
def QI (k : Nat) (e : Qe2) : Option (Bool × Unit) := QI.c k e some
def QI.tin : List Ty := [QdY]
def QI.tout : List Ty := [.bool]
def QI.sem (k : Nat) : Qr := QX QI.tin QI.tout fun x => QI k x.1
noncomputable def QI.ctx (k : Nat) : Ctx := ⟨Tryz.prog, gam [(24, (Q04.sem k)), (19, (QG.sem k)), (10, (QW.sem k)), (25, (Q01.sem k)), (26, (QM.sem k)), (27, (Qz.sem k)), (28, (QT.sem k)), (29, (Q02.sem k)), (23, (Qy.sem k)), (30, (QN.sem k))]⟩
theorem QI.gok (k : Nat) : ∀ f, Qm Tryz.prog f ((QI.ctx k).Γ f) := (Q8 (Q04.sem_ok k) (Q8 (QG.sem_ok k) (Q8 (QW.sem_ok k) (Q8 (Q01.sem_ok k) (Q8 (QM.sem_ok k) (Q8 (Qz.sem_ok k) (Q8 (QT.sem_ok k) (Q8 (Q02.sem_ok k) (Q8 (Qy.sem_ok k) (Q8 (QN.sem_ok k) QK))))))))))
def QI.ann (k : Nat) : Ann := .nil
theorem QI.body (k : Nat) : Q0Y (QI.ctx k) Tryz.f5 (Func.code Tryz.f5) (QI.ann k) QI.tin QI.tout (fun x K => QI.c k x.1 K) := by
 intro ρ x K; kernel_rfl
theorem QI.sem_ok (k : Nat) : Qm Tryz.prog 5 (QI.sem k) :=
 QD (C := QI.ctx k) (QI.gok k) Tryz.mix (c := Func.code Tryz.f5) (ann := QI.ann k) (tin := QI.tin) (tout := QI.tout) (fun x K => QI.c k x.1 K) Tryz.func5 (by kernel_rfl) (by kernel_rfl) Q1.nil (QI.body k)
end Go.Am
namespace Go.Am
open Go
theorem Q7G (e : (Int × List Int × List Int × Int × Int × Int × Unit) × Int × Int × Int × Int × Int × Unit) : QI 140737488355328 e = some (true, ()) := by kernel_rfl
end Go.Am
