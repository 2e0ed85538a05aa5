/- A part of a proof: a machine of abstract values that tells what functions of the program compute, and the plain facts on them. -/
import Derived.Test.YtkcoljbmhmbmbaaGreatAm13
import Derived.KernelRfl
set_option linter.unusedVariables false
set_option linter.unusedSimpArgs false
set_option linter.unnecessarySimpa false
set_option linter.unusedSectionVars false
namespace Go.Am
abbrev Qf2 : Ty := (.arr 32 (.int .u8))
abbrev Qf1 : Type := ((List Int) × (Int × Unit))
abbrev Qf0 : Type := (Int × ((List ( Qf1  × (ByteArray × (Int × Unit)))) × ((List (Int × (ByteArray × Unit))) × (Int × Unit))))
abbrev QeZ : Ty := (.pair (.int .u32) (.pair (.sl (.pair (.pair  Qf2  (.pair (.int .u32) .unit)) (.pair .str (.pair (.int .u32) .unit)))) (.pair (.sl (.pair (.int .u64) (.pair .str .unit))) (.pair (.int .u32) .unit))))
abbrev QeY : Type := ((Int × ((List Int) × ((List Int) × (Int × (Int × (Int × Unit)))))) × ((List  Qf0 ) × Unit))
abbrev QeX : Ty := (.pair (.pair (.int .u32) (.pair  Qf2  (.pair  Qf2  (.pair (.int .u32) (.pair (.int .u32) (.pair (.int .u32) .unit)))))) (.pair (.sl  QeZ ) .unit))
end Go.Am
namespace Go.Am
open Go Go.Proofs
set_option maxRecDepth 100000
abbrev Q07.τ : Type := ((Qf0 × ((List Int) × (Int × (Int × Unit)))) × Bool × Unit)
def Q07.c (k : Nat) {ρ : Type} (id : (List Int)) (K : Q07.τ → Option ρ) : Option ρ :=
 K ((((0 : Int), ([], ([], ((0 : Int), ())))), ((List.replicate 32 (0 : Int)), ((0 : Int), ((0 : Int), ())))), (false, ()))
def Q07 (k : Nat) (id : (List Int)) : Option Q07.τ := Q07.c k id some
def Q07.T : Q19 := ⟨[.nilp, .dat Qf2], [], 0⟩
def Q07.os : List Out := [⟨.ret, [.freeze (.slot 0), .freeze (.slot 1), .auto 0], ⟨[.dat (.pair QeZ (.pair Qf2 (.pair (.int .i64) (.pair (.int .u64) .unit)))), .dat .bool], []⟩⟩]
def Q07.sem (k : Nat) : Qj := Q1g Q07.T Q07.os fun x => Q07 k x.1
noncomputable def Q07.ctx (k : Nat) : Ctx := ⟨Tryz.prog, gam []⟩
theorem Q07.gok (k : Nat) : ∀ f, Qb Tryz.prog f ((Q07.ctx k).Γ f) := QE
def Q07.ann (k : Nat) : Ann := .nil
theorem Q07.body (k : Nat) : Q1l (Q07.ctx k) Tryz.f7 (Func.code Tryz.f7) (Q07.ann k) Q07.T Q07.os (fun x K => Q07.c k x.1 K) := by
 intro ρ x K; kernel_rfl
theorem Q07.sem_ok (k : Nat) : Qb Tryz.prog 7 (Q07.sem k) :=
 Q0P (C := Q07.ctx k) (Q07.gok k) Tryz.mix (c := Func.code Tryz.f7) (ann := Q07.ann k) (T := Q07.T) (os := Q07.os) (fun x K => Q07.c k x.1 K) Tryz.func7 (by kernel_rfl) (by kernel_rfl) Q3.nil (Q07.body k) (by kernel_rfl) (by kernel_rfl) (by kernel_rfl)
abbrev QG.τ : Type := ((List Int) × Bool × Unit)
def QG.c (k : Nat) {ρ : Type} (x_1 : Qf1) (K : QG.τ → Option ρ) : Option ρ :=
 let v0 : (List Int) := (List.replicate 32 (0 : Int))
 K (v0, (false, ()))
def QG (k : Nat) (x_1 : Qf1) : Option QG.τ := QG.c k x_1 some
def QG.T : Q19 := ⟨[.nilp, .dat (.pair Qf2 (.pair (.int .u32) .unit))], [], 0⟩
def QG.os : List Out := [⟨.ret, [.freeze (.slot 0), .freeze (.slot 1), .auto 0], ⟨[.dat Qf2, .dat .bool], []⟩⟩]
def QG.sem (k : Nat) : Qj := Q1g QG.T QG.os fun x => QG k x.1
noncomputable def QG.ctx (k : Nat) : Ctx := ⟨Tryz.prog, gam []⟩
theorem QG.gok (k : Nat) : ∀ f, Qb Tryz.prog f ((QG.ctx k).Γ f) := QE
def QG.ann (k : Nat) : Ann := .nil
theorem QG.body (k : Nat) : Q1l (QG.ctx k) Tryz.f8 (Func.code Tryz.f8) (QG.ann k) QG.T QG.os (fun x K => QG.c k x.1 K) := by
 intro ρ x K; kernel_rfl
theorem QG.sem_ok (k : Nat) : Qb Tryz.prog 8 (QG.sem k) :=
 Q0P (C := QG.ctx k) (QG.gok k) Tryz.mix (c := Func.code Tryz.f8) (ann := QG.ann k) (T := QG.T) (os := QG.os) (fun x K => QG.c k x.1 K) Tryz.func8 (by kernel_rfl) (by kernel_rfl) Q3.nil (QG.body k) (by kernel_rfl) (by kernel_rfl) (by kernel_rfl)
abbrev QW.τ : Type := ((List (List Int)) × Unit)
def QW.c (k : Nat) {ρ : Type} (b : QeY) (K : QW.τ → Option ρ) : Option ρ :=
 K ([], ())
def QW (k : Nat) (b : QeY) : Option QW.τ := QW.c k b some
def QW.T : Q19 := ⟨[.nilp, .dat QeX], [], 0⟩
def QW.os : List Out := [⟨.ret, [.freeze (.slot 0), .auto 0], ⟨[.dat (.sl Qf2)], []⟩⟩]
def QW.sem (k : Nat) : Qj := Q1g QW.T QW.os fun x => QW k x.1
noncomputable def QW.ctx (k : Nat) : Ctx := ⟨Tryz.prog, gam []⟩
theorem QW.gok (k : Nat) : ∀ f, Qb Tryz.prog f ((QW.ctx k).Γ f) := QE
def QW.ann (k : Nat) : Ann := .nil
theorem QW.body (k : Nat) : Q1l (QW.ctx k) Tryz.f10 (Func.code Tryz.f10) (QW.ann k) QW.T QW.os (fun x K => QW.c k x.1 K) := by
 intro ρ x K; kernel_rfl
theorem QW.sem_ok (k : Nat) : Qb Tryz.prog 10 (QW.sem k) :=
 Q0P (C := QW.ctx k) (QW.gok k) Tryz.mix (c := Func.code Tryz.f10) (ann := QW.ann k) (T := QW.T) (os := QW.os) (fun x K => QW.c k x.1 K) Tryz.func10 (by kernel_rfl) (by kernel_rfl) Q3.nil (QW.body k) (by kernel_rfl) (by kernel_rfl) (by kernel_rfl)
abbrev Q06.τ : Type := (Bool × Unit)
def Q06.c (k : Nat) {ρ : Type} (id : (List Int)) (K : Q06.τ → Option ρ) : Option ρ :=
 K (false, ())
def Q06 (k : Nat) (id : (List Int)) : Option Q06.τ := Q06.c k id some
def Q06.T : Q19 := ⟨[.nilp, .dat Qf2], [], 0⟩
def Q06.os : List Out := [⟨.ret, [.freeze (.slot 0), .auto 0], ⟨[.dat .bool], []⟩⟩]
def Q06.sem (k : Nat) : Qj := Q1g Q06.T Q06.os fun x => Q06 k x.1
noncomputable def Q06.ctx (k : Nat) : Ctx := ⟨Tryz.prog, gam []⟩
theorem Q06.gok (k : Nat) : ∀ f, Qb Tryz.prog f ((Q06.ctx k).Γ f) := QE
def Q06.ann (k : Nat) : Ann := .nil
theorem Q06.body (k : Nat) : Q1l (Q06.ctx k) Tryz.f13 (Func.code Tryz.f13) (Q06.ann k) Q06.T Q06.os (fun x K => Q06.c k x.1 K) := by
 intro ρ x K; kernel_rfl
theorem Q06.sem_ok (k : Nat) : Qb Tryz.prog 13 (Q06.sem k) :=
 Q0P (C := Q06.ctx k) (Q06.gok k) Tryz.mix (c := Func.code Tryz.f13) (ann := Q06.ann k) (T := Q06.T) (os := Q06.os) (fun x K => Q06.c k x.1 K) Tryz.func13 (by kernel_rfl) (by kernel_rfl) Q3.nil (Q06.body k) (by kernel_rfl) (by kernel_rfl) (by kernel_rfl)
abbrev QF.τ : Type := (Bool × Unit)
def QF.c (k : Nat) {ρ : Type} (id : (List Int)) (K : QF.τ → Option ρ) : Option ρ :=
 K (false, ())
def QF (k : Nat) (id : (List Int)) : Option QF.τ := QF.c k id some
def QF.T : Q19 := ⟨[.nilp, .dat Qf2], [], 0⟩
def QF.os : List Out := [⟨.ret, [.freeze (.slot 0), .auto 0], ⟨[.dat .bool], []⟩⟩]
def QF.sem (k : Nat) : Qj := Q1g QF.T QF.os fun x => QF k x.1
noncomputable def QF.ctx (k : Nat) : Ctx := ⟨Tryz.prog, gam []⟩
theorem QF.gok (k : Nat) : ∀ f, Qb Tryz.prog f ((QF.ctx k).Γ f) := QE
def QF.ann (k : Nat) : Ann := .nil
theorem QF.body (k : Nat) : Q1l (QF.ctx k) Tryz.f14 (Func.code Tryz.f14) (QF.ann k) QF.T QF.os (fun x K => QF.c k x.1 K) := by
 intro ρ x K; kernel_rfl
theorem QF.sem_ok (k : Nat) : Qb Tryz.prog 14 (QF.sem k) :=
 Q0P (C := QF.ctx k) (QF.gok k) Tryz.mix (c := Func.code Tryz.f14) (ann := QF.ann k) (T := QF.T) (os := QF.os) (fun x K => QF.c k x.1 K) Tryz.func14 (by kernel_rfl) (by kernel_rfl) Q3.nil (QF.body k) (by kernel_rfl) (by kernel_rfl) (by kernel_rfl)
abbrev QZ.τ : Type := ((List Qf0) × Unit)
def QZ.c (k : Nat) {ρ : Type} (most : Int) (K : QZ.τ → Option ρ) : Option ρ :=
 K ([], ())
def QZ (k : Nat) (most : Int) : Option QZ.τ := QZ.c k most some
def QZ.T : Q19 := ⟨[.nilp, .dat (.int .i64)], [], 0⟩
def QZ.os : List Out := [⟨.ret, [.freeze (.slot 0), .auto 0], ⟨[.dat (.sl QeZ)], []⟩⟩]
def QZ.sem (k : Nat) : Qj := Q1g QZ.T QZ.os fun x => QZ k x.1
noncomputable def QZ.ctx (k : Nat) : Ctx := ⟨Tryz.prog, gam []⟩
theorem QZ.gok (k : Nat) : ∀ f, Qb Tryz.prog f ((QZ.ctx k).Γ f) := QE
def QZ.ann (k : Nat) : Ann := .nil
theorem QZ.body (k : Nat) : Q1l (QZ.ctx k) Tryz.f15 (Func.code Tryz.f15) (QZ.ann k) QZ.T QZ.os (fun x K => QZ.c k x.1 K) := by
 intro ρ x K; kernel_rfl
theorem QZ.sem_ok (k : Nat) : Qb Tryz.prog 15 (QZ.sem k) :=
 Q0P (C := QZ.ctx k) (QZ.gok k) Tryz.mix (c := Func.code Tryz.f15) (ann := QZ.ann k) (T := QZ.T) (os := QZ.os) (fun x K => QZ.c k x.1 K) Tryz.func15 (by kernel_rfl) (by kernel_rfl) Q3.nil (QZ.body k) (by kernel_rfl) (by kernel_rfl) (by kernel_rfl)
abbrev Q0a.τ : Type := ((List (List Int)) × Unit)
def Q0a.c (k : Nat) {ρ : Type}  (K : Q0a.τ → Option ρ) : Option ρ :=
 K ([], ())
def Q0a (k : Nat)  : Option Q0a.τ := Q0a.c k  some
def Q0a.T : Q19 := ⟨[.nilp], [], 0⟩
def Q0a.os : List Out := [⟨.ret, [.freeze (.slot 0), .auto 0], ⟨[.dat (.sl Qf2)], []⟩⟩]
def Q0a.sem (k : Nat) : Qj := Q1g Q0a.T Q0a.os fun x => Q0a k 
noncomputable def Q0a.ctx (k : Nat) : Ctx := ⟨Tryz.prog, gam []⟩
theorem Q0a.gok (k : Nat) : ∀ f, Qb Tryz.prog f ((Q0a.ctx k).Γ f) := QE
def Q0a.ann (k : Nat) : Ann := .nil
theorem Q0a.body (k : Nat) : Q1l (Q0a.ctx k) Tryz.f19 (Func.code Tryz.f19) (Q0a.ann k) Q0a.T Q0a.os (fun x K => Q0a.c k  K) := by
 intro ρ x K; kernel_rfl
theorem Q0a.sem_ok (k : Nat) : Qb Tryz.prog 19 (Q0a.sem k) :=
 Q0P (C := Q0a.ctx k) (Q0a.gok k) Tryz.mix (c := Func.code Tryz.f19) (ann := Q0a.ann k) (T := Q0a.T) (os := Q0a.os) (fun x K => Q0a.c k  K) Tryz.func19 (by kernel_rfl) (by kernel_rfl) Q3.nil (Q0a.body k) (by kernel_rfl) (by kernel_rfl) (by kernel_rfl)
abbrev Qx.τ : Type := ((List (List Int)) × Unit)
def Qx.c (k : Nat) {ρ : Type}  (K : Qx.τ → Option ρ) : Option ρ :=
 K ([], ())
def Qx (k : Nat)  : Option Qx.τ := Qx.c k  some
def Qx.T : Q19 := ⟨[.nilp], [], 0⟩
def Qx.os : List Out := [⟨.ret, [.freeze (.slot 0), .auto 0], ⟨[.dat (.sl Qf2)], []⟩⟩]
def Qx.sem (k : Nat) : Qj := Q1g Qx.T Qx.os fun x => Qx k 
noncomputable def Qx.ctx (k : Nat) : Ctx := ⟨Tryz.prog, gam []⟩
theorem Qx.gok (k : Nat) : ∀ f, Qb Tryz.prog f ((Qx.ctx k).Γ f) := QE
def Qx.ann (k : Nat) : Ann := .nil
theorem Qx.body (k : Nat) : Q1l (Qx.ctx k) Tryz.f20 (Func.code Tryz.f20) (Qx.ann k) Qx.T Qx.os (fun x K => Qx.c k  K) := by
 intro ρ x K; kernel_rfl
theorem Qx.sem_ok (k : Nat) : Qb Tryz.prog 20 (Qx.sem k) :=
 Q0P (C := Qx.ctx k) (Qx.gok k) Tryz.mix (c := Func.code Tryz.f20) (ann := Qx.ann k) (T := Qx.T) (os := Qx.os) (fun x K => Qx.c k  K) Tryz.func20 (by kernel_rfl) (by kernel_rfl) Q3.nil (Qx.body k) (by kernel_rfl) (by kernel_rfl) (by kernel_rfl)
abbrev QK.τ : Type := (Int × Unit)
def QK.c (k : Nat) {ρ : Type}  (K : QK.τ → Option ρ) : Option ρ :=
 K ((0 : Int), ())
def QK (k : Nat)  : Option QK.τ := QK.c k  some
def QK.T : Q19 := ⟨[.nilp], [], 0⟩
def QK.os : List Out := [⟨.ret, [.freeze (.slot 0), .auto 0], ⟨[.dat (.int .i64)], []⟩⟩]
def QK.sem (k : Nat) : Qj := Q1g QK.T QK.os fun x => QK k 
noncomputable def QK.ctx (k : Nat) : Ctx := ⟨Tryz.prog, gam []⟩
theorem QK.gok (k : Nat) : ∀ f, Qb Tryz.prog f ((QK.ctx k).Γ f) := QE
def QK.ann (k : Nat) : Ann := .nil
theorem QK.body (k : Nat) : Q1l (QK.ctx k) Tryz.f21 (Func.code Tryz.f21) (QK.ann k) QK.T QK.os (fun x K => QK.c k  K) := by
 intro ρ x K; kernel_rfl
theorem QK.sem_ok (k : Nat) : Qb Tryz.prog 21 (QK.sem k) :=
 Q0P (C := QK.ctx k) (QK.gok k) Tryz.mix (c := Func.code Tryz.f21) (ann := QK.ann k) (T := QK.T) (os := QK.os) (fun x K => QK.c k  K) Tryz.func21 (by kernel_rfl) (by kernel_rfl) Q3.nil (QK.body k) (by kernel_rfl) (by kernel_rfl) (by kernel_rfl)
abbrev QU.τ : Type := (Int × Unit)
def QU.c (k : Nat) {ρ : Type}  (K : QU.τ → Option ρ) : Option ρ :=
 K ((0 : Int), ())
def QU (k : Nat)  : Option QU.τ := QU.c k  some
def QU.T : Q19 := ⟨[.nilp], [], 0⟩
def QU.os : List Out := [⟨.ret, [.freeze (.slot 0), .auto 0], ⟨[.dat (.int .u64)], []⟩⟩]
def QU.sem (k : Nat) : Qj := Q1g QU.T QU.os fun x => QU k 
noncomputable def QU.ctx (k : Nat) : Ctx := ⟨Tryz.prog, gam []⟩
theorem QU.gok (k : Nat) : ∀ f, Qb Tryz.prog f ((QU.ctx k).Γ f) := QE
def QU.ann (k : Nat) : Ann := .nil
theorem QU.body (k : Nat) : Q1l (QU.ctx k) Tryz.f22 (Func.code Tryz.f22) (QU.ann k) QU.T QU.os (fun x K => QU.c k  K) := by
 intro ρ x K; kernel_rfl
theorem QU.sem_ok (k : Nat) : Qb Tryz.prog 22 (QU.sem k) :=
 Q0P (C := QU.ctx k) (QU.gok k) Tryz.mix (c := Func.code Tryz.f22) (ann := QU.ann k) (T := QU.T) (os := QU.os) (fun x K => QU.c k  K) Tryz.func22 (by kernel_rfl) (by kernel_rfl) Q3.nil (QU.body k) (by kernel_rfl) (by kernel_rfl) (by kernel_rfl)
abbrev Q09.τ : Type := (Int × Unit)
def Q09.c (k : Nat) {ρ : Type}  (K : Q09.τ → Option ρ) : Option ρ :=
 K ((0 : Int), ())
def Q09 (k : Nat)  : Option Q09.τ := Q09.c k  some
def Q09.T : Q19 := ⟨[.nilp], [], 0⟩
def Q09.os : List Out := [⟨.ret, [.freeze (.slot 0), .auto 0], ⟨[.dat (.int .i64)], []⟩⟩]
def Q09.sem (k : Nat) : Qj := Q1g Q09.T Q09.os fun x => Q09 k 
noncomputable def Q09.ctx (k : Nat) : Ctx := ⟨Tryz.prog, gam []⟩
theorem Q09.gok (k : Nat) : ∀ f, Qb Tryz.prog f ((Q09.ctx k).Γ f) := QE
def Q09.ann (k : Nat) : Ann := .nil
theorem Q09.body (k : Nat) : Q1l (Q09.ctx k) Tryz.f23 (Func.code Tryz.f23) (Q09.ann k) Q09.T Q09.os (fun x K => Q09.c k  K) := by
 intro ρ x K; kernel_rfl
theorem Q09.sem_ok (k : Nat) : Qb Tryz.prog 23 (Q09.sem k) :=
 Q0P (C := Q09.ctx k) (Q09.gok k) Tryz.mix (c := Func.code Tryz.f23) (ann := Q09.ann k) (T := Q09.T) (os := Q09.os) (fun x K => Q09.c k  K) Tryz.func23 (by kernel_rfl) (by kernel_rfl) Q3.nil (Q09.body k) (by kernel_rfl) (by kernel_rfl) (by kernel_rfl)
abbrev QV.τ : Type := ((List (List Int)) × Unit)
def QV.c (k : Nat) {ρ : Type} (id : (List Int)) (K : QV.τ → Option ρ) : Option ρ :=
 K ([], ())
def QV (k : Nat) (id : (List Int)) : Option QV.τ := QV.c k id some
def QV.T : Q19 := ⟨[.nilp, .dat Qf2], [], 0⟩
def QV.os : List Out := [⟨.ret, [.freeze (.slot 0), .auto 0], ⟨[.dat (.sl Qf2)], []⟩⟩]
def QV.sem (k : Nat) : Qj := Q1g QV.T QV.os fun x => QV k x.1
noncomputable def QV.ctx (k : Nat) : Ctx := ⟨Tryz.prog, gam []⟩
theorem QV.gok (k : Nat) : ∀ f, Qb Tryz.prog f ((QV.ctx k).Γ f) := QE
def QV.ann (k : Nat) : Ann := .nil
theorem QV.body (k : Nat) : Q1l (QV.ctx k) Tryz.f24 (Func.code Tryz.f24) (QV.ann k) QV.T QV.os (fun x K => QV.c k x.1 K) := by
 intro ρ x K; kernel_rfl
theorem QV.sem_ok (k : Nat) : Qb Tryz.prog 24 (QV.sem k) :=
 Q0P (C := QV.ctx k) (QV.gok k) Tryz.mix (c := Func.code Tryz.f24) (ann := QV.ann k) (T := QV.T) (os := QV.os) (fun x K => QV.c k x.1 K) Tryz.func24 (by kernel_rfl) (by kernel_rfl) Q3.nil (QV.body k) (by kernel_rfl) (by kernel_rfl) (by kernel_rfl)
abbrev QJ.τ : Type := (Unit)
def QJ.c (k : Nat) {ρ : Type}  (K : QJ.τ → Option ρ) : Option ρ :=
 K ()
def QJ (k : Nat)  : Option QJ.τ := QJ.c k  some
def QJ.T : Q19 := ⟨[.nilp], [], 0⟩
def QJ.os : List Out := [⟨.ret, [.auto 0], ⟨[.nilp], []⟩⟩]
def QJ.sem (k : Nat) : Qj := Q1g QJ.T QJ.os fun x => QJ k 
noncomputable def QJ.ctx (k : Nat) : Ctx := ⟨Tryz.prog, gam []⟩
theorem QJ.gok (k : Nat) : ∀ f, Qb Tryz.prog f ((QJ.ctx k).Γ f) := QE
def QJ.ann (k : Nat) : Ann := .nil
theorem QJ.body (k : Nat) : Q1l (QJ.ctx k) Tryz.f25 (Func.code Tryz.f25) (QJ.ann k) QJ.T QJ.os (fun x K => QJ.c k  K) := by
 intro ρ x K; kernel_rfl
theorem QJ.sem_ok (k : Nat) : Qb Tryz.prog 25 (QJ.sem k) :=
 Q0P (C := QJ.ctx k) (QJ.gok k) Tryz.mix (c := Func.code Tryz.f25) (ann := QJ.ann k) (T := QJ.T) (os := QJ.os) (fun x K => QJ.c k  K) Tryz.func25 (by kernel_rfl) (by kernel_rfl) Q3.nil (QJ.body k) (by kernel_rfl) (by kernel_rfl) (by kernel_rfl)
def Qq.c (k : Nat) {ρ : Type} (t : Qf0) (b : QeY) (x_2 : Qf1) (K : Bool × Unit → Option ρ) : Option ρ :=
 let v0 : (List Int) := x_2.1
 (Q07 k v0).bind fun t1 => (QG k (x_2.1, (x_2.2.1, ()))).bind fun t2 => let v3 : (List Int) := t2.1
 (QQ k ).bind fun t4 => bif t4.1 then (let v5 : (List Int) := (List.replicate 32 0)
 let v6 : (List Int) := (List.replicate 32 (0 : Int))
 bif (decide (v5 = v6)) then (let v7 : (List Int) := (List.replicate 32 0)
 let v8 : (List Int) := (List.replicate 32 (0 : Int))
 bif (decide (v7 = v8)) then ((QW k ((b.1.1, (b.1.2.1, (b.1.2.2.1, (b.1.2.2.2.1, (b.1.2.2.2.2.1, (b.1.2.2.2.2.2.1, ())))))), (b.2.1, ()))).bind fun t9 => let v10 : Int := (((List.length t9.1) : Nat) : Int)
 bif (v10 == (0 : Int)) then (bif (!t1.2.1) then (bif (!t2.2.1) then (let v11 : (List Int) := x_2.1
 (Q06 k v11).bind fun t12 => bif (!t12.1) then (let v13 : (List Int) := x_2.1
 (QF k v13).bind fun t14 => bif (!t14.1) then ((QZ k (100 : Int)).bind fun t15 => let v16 : Int := (((List.length t15.1) : Nat) : Int)
 bif (v16 == (0 : Int)) then (let v17 : (List Int) := x_2.1
 let v18 : (List Int) := x_2.1
 let v19 : (List Int) := x_2.1
 (Q0a k ).bind fun t20 => let v21 : Int := (((List.length t20.1) : Nat) : Int)
 bif (v21 == (0 : Int)) then ((Qx k ).bind fun t22 => let v23 : Int := (((List.length t22.1) : Nat) : Int)
 bif (v23 == (0 : Int)) then ((QK k ).bind fun t24 => bif (t24.1 == (0 : Int)) then ((QU k ).bind fun t25 => bif (t25.1 == (0 : Int)) then ((Q09 k ).bind fun t26 => bif (t26.1 == (0 : Int)) then (let v27 : (List Int) := x_2.1
 (QV k v27).bind fun t28 => let v29 : Int := (((List.length t28.1) : Nat) : Int)
 bif (v29 == (0 : Int)) then ((QJ k ).bind fun t30 => K (true, ())) else (K (false, ()))) else (K (false, ()))) else (K (false, ()))) else (K (false, ()))) else (K (false, ()))) else (K (false, ()))) else (K (false, ()))) else (K (false, ()))) else (K (false, ()))) else (K (false, ()))) else (K (false, ()))) else (K (false, ()))) else (K (false, ()))) else (K (false, ()))) else (K (false, ()))
def Qq (k : Nat) (t : Qf0) (b : QeY) (x_2 : Qf1) : Option (Bool × Unit) := Qq.c k t b x_2 some
def Qq.tin : List Ty := [QeZ, QeX, (.pair Qf2 (.pair (.int .u32) .unit))]
def Qq.tout : List Ty := [.bool]
def Qq.sem (k : Nat) : Qj := Qn Qq.tin Qq.tout fun x => Qq k x.1 x.2.1 x.2.2.1
noncomputable def Qq.ctx (k : Nat) : Ctx := ⟨Tryz.prog, gam [(5, Q86), (4, QcF), (6, Q86), (7, (Q07.sem k)), (8, (QG.sem k)), (9, (QQ.sem k)), (10, (QW.sem k)), (11, Qco), (12, Qcz), (13, (Q06.sem k)), (14, (QF.sem k)), (15, (QZ.sem k)), (16, Q5C), (17, Q5C), (18, Q5C), (19, (Q0a.sem k)), (20, (Qx.sem k)), (21, (QK.sem k)), (22, (QU.sem k)), (23, (Q09.sem k)), (24, (QV.sem k)), (25, (QJ.sem k))]⟩
theorem Qq.gok (k : Nat) : ∀ f, Qb Tryz.prog f ((Qq.ctx k).Γ f) := (Q7 Nl.new5 (Q7 Qdv (Q7 Nl.new6 (Q7 (Q07.sem_ok k) (Q7 (QG.sem_ok k) (Q7 (QQ.sem_ok k) (Q7 (QW.sem_ok k) (Q7 Qdp (Q7 Qdy (Q7 (Q06.sem_ok k) (Q7 (QF.sem_ok k) (Q7 (QZ.sem_ok k) (Q7 Nl.kin16 (Q7 Nl.kin17 (Q7 Nl.kin18 (Q7 (Q0a.sem_ok k) (Q7 (Qx.sem_ok k) (Q7 (QK.sem_ok k) (Q7 (QU.sem_ok k) (Q7 (Q09.sem_ok k) (Q7 (QV.sem_ok k) (Q7 (QJ.sem_ok k) QE))))))))))))))))))))))
def Qq.ann (k : Nat) : Ann := .nil
theorem Qq.body (k : Nat) : Q0M (Qq.ctx k) Tryz.f3 (Func.code Tryz.f3) (Qq.ann k) Qq.tin Qq.tout (fun x K => Qq.c k x.1 x.2.1 x.2.2.1 K) := by
 intro ρ x K; kernel_rfl
theorem Qq.sem_ok (k : Nat) : Qb Tryz.prog 3 (Qq.sem k) :=
 Qs (C := Qq.ctx k) (Qq.gok k) Tryz.mix (c := Func.code Tryz.f3) (ann := Qq.ann k) (tin := Qq.tin) (tout := Qq.tout) (fun x K => Qq.c k x.1 x.2.1 x.2.2.1 K) Tryz.func3 (by kernel_rfl) (by kernel_rfl) Q3.nil (Qq.body k)
end Go.Am
namespace Go.Am
open Go
theorem Q92 (t : Qq.tin[0].den) (b : Qq.tin[1].den) (x : Qq.tin[2].den) : Qq 140737488355328 t b x = some (true, ()) := by kernel_rfl
end Go.Am
