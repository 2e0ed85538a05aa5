/- A part of a proof: a machine of abstract values that tells what functions of the program compute, and the plain facts on them. -/
import Derived.Test.YtifpmlmgindkaaaGreatAm9
import Derived.KernelRfl
set_option linter.unusedVariables false
set_option linter.unusedSimpArgs false
set_option linter.unnecessarySimpa false
set_option linter.unusedSectionVars false
namespace Go.Am
abbrev Qdy : Type := ((List Int) × Unit)
abbrev Qdx : Ty := (.arr 32 (.int .u8))
abbrev Qdw : Ty := (.arr 64 (.int .u8))
abbrev Qdv : Ty := (.arr 8 (.int .u32))
abbrev Qdu : Ty := (.arr 64 (.int .u32))
abbrev Qdt : Ty := (.pair (.int .u64) .unit)
abbrev Qds : Type := ((List Int) × (Unit × (Int × Unit)))
abbrev Qdr : Type := ((List Int) × (List Int) × (List Int) × Unit)
abbrev Qdq : Type := ( Qds  × (List Int) × Unit)
end Go.Am
namespace Go.Am
open Go Go.Proofs
set_option maxRecDepth 100000
def Q16.c (k : Nat) {ρ : Type}  (K : (List Int) × Unit → Option ρ) : Option ρ :=
 let v0 : (List Int) := (List.set (List.set (List.set (List.set (List.set (List.set (List.set (List.set (List.replicate 8 (0 : Int)) 0 (1779033703 : Int)) 1 (3144134277 : Int)) 2 (1013904242 : Int)) 3 (2773480762 : Int)) 4 (1359893119 : Int)) 5 (2600822924 : Int)) 6 (528734635 : Int)) 7 (1541459225 : Int))
 K (v0, ())
def Q16 (k : Nat)  : Option Qdy := Q16.c k  some
def Q16.tin : List Ty := []
def Q16.tout : List Ty := [Qdv]
def Q16.sem (k : Nat) : Qr := QX Q16.tin Q16.tout fun x => Q16 k 
noncomputable def Q16.ctx (k : Nat) : Ctx := ⟨Tryz.prog, gam []⟩
theorem Q16.gok (k : Nat) : ∀ f, Qm Tryz.prog f ((Q16.ctx k).Γ f) := QK
def Q16.ann (k : Nat) : Ann := .nil
theorem Q16.body (k : Nat) : Q0Y (Q16.ctx k) Tryz.f150 (Func.code Tryz.f150) (Q16.ann k) Q16.tin Q16.tout (fun x K => Q16.c k  K) := by
 intro ρ x K; kernel_rfl
theorem Q16.sem_ok (k : Nat) : Qm Tryz.prog 150 (Q16.sem k) :=
 QD (C := Q16.ctx k) (Q16.gok k) Tryz.mix (c := Func.code Tryz.f150) (ann := Q16.ann k) (tin := Q16.tin) (tout := Q16.tout) (fun x K => Q16.c k  K) Tryz.func150 (by kernel_rfl) (by kernel_rfl) Q1.nil (Q16.body k)
abbrev Q1i.τ : Type := (Qds × Unit)
def Q1i.c (k : Nat) {ρ : Type}  (K : Q1i.τ → Option ρ) : Option ρ :=
 (Q16 k ).bind fun t0 => K ((t0.1, ((), ((0 : Int), ()))), ())
def Q1i (k : Nat)  : Option Q1i.τ := Q1i.c k  some
def Q1i.T : Q1g := ⟨[], [], 0⟩
def Q1i.os : List Out := [⟨.ret, [.auto 0], ⟨[.ptr 0 []], [.pair (.dat Qdv) (.pair (.nils) (.dat Qdt))]⟩⟩]
def Q1i.sem (k : Nat) : Qr := Q1j Q1i.T Q1i.os fun x => Q1i k 
noncomputable def Q1i.ctx (k : Nat) : Ctx := ⟨Tryz.prog, gam [(150, (Q16.sem k))]⟩
theorem Q1i.gok (k : Nat) : ∀ f, Qm Tryz.prog f ((Q1i.ctx k).Γ f) := (Q8 (Q16.sem_ok k) QK)
def Q1i.ann (k : Nat) : Ann := .nil
theorem Q1i.body (k : Nat) : Q1n (Q1i.ctx k) Tryz.f136 (Func.code Tryz.f136) (Q1i.ann k) Q1i.T Q1i.os (fun x K => Q1i.c k  K) := by
 intro ρ x K; kernel_rfl
theorem Q1i.sem_ok (k : Nat) : Qm Tryz.prog 136 (Q1i.sem k) :=
 Q0U (C := Q1i.ctx k) (Q1i.gok k) Tryz.mix (c := Func.code Tryz.f136) (ann := Q1i.ann k) (T := Q1i.T) (os := Q1i.os) (fun x K => Q1i.c k  K) Tryz.func136 (by kernel_rfl) (by kernel_rfl) Q1.nil (Q1i.body k) (by kernel_rfl) (by kernel_rfl) (by kernel_rfl)
def QH.c (k : Nat) {ρ : Type} (x_0 : Int) (k_1 : Int) (K : Int × Unit → Option ρ) : Option ρ :=
 let v0 : Int := (Q1d BinOp.and IntKind.u64 (IntKind.wrap IntKind.u64 k_1) (31 : Int))
 bif (decide ((0 : Int) ≤ v0)) then (let v1 : Int := (IntKind.wrap IntKind.u64 ((32 : Int) - v0))
 bif (decide ((0 : Int) ≤ v1)) then (let v2 : Int := (Q1d BinOp.or IntKind.u32 (Q30 IntKind.u32 x_0 v0) (Q29 IntKind.u32 x_0 v1))
 K (v2, ())) else (none)) else (none)
def QH (k : Nat) (x_0 : Int) (k_1 : Int) : Option (Int × Unit) := QH.c k x_0 k_1 some
def QH.tin : List Ty := [(.int .u32), (.int .i64)]
def QH.tout : List Ty := [(.int .u32)]
def QH.sem (k : Nat) : Qr := QX QH.tin QH.tout fun x => QH k x.1 x.2.1
noncomputable def QH.ctx (k : Nat) : Ctx := ⟨Tryz.prog, gam []⟩
theorem QH.gok (k : Nat) : ∀ f, Qm Tryz.prog f ((QH.ctx k).Γ f) := QK
def QH.ann (k : Nat) : Ann := .nil
theorem QH.body (k : Nat) : Q0Y (QH.ctx k) Tryz.f172 (Func.code Tryz.f172) (QH.ann k) QH.tin QH.tout (fun x K => QH.c k x.1 x.2.1 K) := by
 intro ρ x K; kernel_rfl
theorem QH.sem_ok (k : Nat) : Qm Tryz.prog 172 (QH.sem k) :=
 QD (C := QH.ctx k) (QH.gok k) Tryz.mix (c := Func.code Tryz.f172) (ann := QH.ann k) (tin := QH.tin) (tout := QH.tout) (fun x K => QH.c k x.1 x.2.1 K) Tryz.func172 (by kernel_rfl) (by kernel_rfl) Q1.nil (QH.body k)
def Q0L.c (k : Nat) {ρ : Type} (x_0 : Int) (n : Int) (K : Int × Unit → Option ρ) : Option ρ :=
 let v0 : Int := (IntKind.wrap IntKind.i64 ((0 : Int) - n))
 (QH k x_0 v0).bind fun t1 => K (t1.1, ())
def Q0L (k : Nat) (x_0 : Int) (n : Int) : Option (Int × Unit) := Q0L.c k x_0 n some
def Q0L.tin : List Ty := [(.int .u32), (.int .i64)]
def Q0L.tout : List Ty := [(.int .u32)]
def Q0L.sem (k : Nat) : Qr := QX Q0L.tin Q0L.tout fun x => Q0L k x.1 x.2.1
noncomputable def Q0L.ctx (k : Nat) : Ctx := ⟨Tryz.prog, gam [(172, (QH.sem k))]⟩
theorem Q0L.gok (k : Nat) : ∀ f, Qm Tryz.prog f ((Q0L.ctx k).Γ f) := (Q8 (QH.sem_ok k) QK)
def Q0L.ann (k : Nat) : Ann := .nil
theorem Q0L.body (k : Nat) : Q0Y (Q0L.ctx k) Tryz.f165 (Func.code Tryz.f165) (Q0L.ann k) Q0L.tin Q0L.tout (fun x K => Q0L.c k x.1 x.2.1 K) := by
 intro ρ x K; kernel_rfl
theorem Q0L.sem_ok (k : Nat) : Qm Tryz.prog 165 (Q0L.sem k) :=
 QD (C := Q0L.ctx k) (Q0L.gok k) Tryz.mix (c := Func.code Tryz.f165) (ann := Q0L.ann k) (tin := Q0L.tin) (tout := Q0L.tout) (fun x K => Q0L.c k x.1 x.2.1 K) Tryz.func165 (by kernel_rfl) (by kernel_rfl) Q1.nil (Q0L.body k)
abbrev Qo.l1.σ : Type := Int × Int × (Nat × Nat) × Int × Int × (List Int) × (List Int) × (List Int) × Unit
abbrev Qo.l1.τ : Type := (Int × (List Int) × (List Int) × (List Int) × Unit)
def Qo.l1.r (k : Nat) {ρ : Type} (x : Qo.l1.σ) (kn : Qo.l1.σ → Option ρ) (ke : Qo.l1.τ → Option ρ) : Option ρ :=
 bif (decide (x.2.2.2.2.1 < x.2.2.2.1)) then (bif (decide (((0 : Int) ≤ x.2.2.2.2.1) ∧ (x.2.2.2.2.1 < ((x.2.2.1.2 : Nat) : Int)))) then (let v4 : Int := (List.getD x.2.2.2.2.2.1 (x.2.2.1.1 + (Int.toNat x.2.2.2.2.1)) (0 : Int))
 bif (decide (((0 : Int) ≤ x.1) ∧ (x.1 < ((64 : Nat) : Int)))) then (let v5 : Int := (List.getD x.2.2.2.2.2.2.2.1 (Int.toNat x.1) (0 : Int))
 let v6 : Int := (Q30 IntKind.u32 v5 (8 : Int))
 bif (decide (((0 : Int) ≤ x.1) ∧ (x.1 < ((64 : Nat) : Int)))) then (let v7 : Int := (IntKind.wrap IntKind.i64 (x.2.2.2.2.1 + (1 : Int)))
 kn (x.1, (x.2.1, ((x.2.2.1.1, x.2.2.1.2), (x.2.2.2.1, (v7, (x.2.2.2.2.2.1, (x.2.2.2.2.2.2.1, ((List.set x.2.2.2.2.2.2.2.1 (Int.toNat x.1) (Q1d BinOp.or IntKind.u32 v6 (IntKind.wrap IntKind.u32 v4))), ()))))))))) else (none)) else (none)) else (none)) else (ke (x.2.1, (x.2.2.2.2.2.1, (x.2.2.2.2.2.2.1, (x.2.2.2.2.2.2.2.1, ())))))
def Qo.l1 (k : Nat) : Nat → Qo.l1.σ → Option Qo.l1.τ := Q1c (Qo.l1.r k)
def Qo.l1.T : StT := ⟨.ptr 0 [] :: us 1 ++ .ptr 1 [] :: .ptr 2 [] :: .dat (.int .i64) :: us 7 ++ .dat (.int .i64) :: us 9 ++ .slr 0 [] :: .dat (.int .i64) :: .dat (.int .i64) :: us 58, [.dat Qdw, .dat Qdu, .dat Qdu]⟩
def Qo.l1.os : List Out := [⟨(.exit 2), [.mask [0, 2, 3, 12], .auto 1], ⟨.ptr 0 [] :: us 1 ++ .ptr 1 [] :: .ptr 2 [] :: us 8 ++ .dat (.int .i64) :: us 70, [.dat Qdw, .dat Qdu, .dat Qdu]⟩⟩]
abbrev Qo.l0.σ : Type := Int × (List Int) × (List Int) × (List Int) × Unit
abbrev Qo.l0.τ : Type := Qdr 
def Qo.l0.r (k : Nat) {ρ : Type} (x : Qo.l0.σ) (kn : Qo.l0.σ → Option ρ) (ke : Qo.l0.τ → Option ρ) : Option ρ :=
 bif (decide (x.1 < (16 : Int))) then (let v0 : Int := (IntKind.wrap IntKind.i64 ((4 : Int) * x.1))
 let v1 : Int := (IntKind.wrap IntKind.i64 (x.1 + (1 : Int)))
 let v2 : Int := (IntKind.wrap IntKind.i64 ((4 : Int) * v1))
 bif (decide (((0 : Int) ≤ v0) ∧ ((v0 ≤ v2) ∧ (v2 ≤ ((64 : Nat) : Int))))) then (let v3 : Int := (((Int.toNat (v2 - v0)) : Nat) : Int)
 (Qo.l1 k k (x.1, (x.1, (((Int.toNat v0), (Int.toNat (v2 - v0))), (v3, ((0 : Int), (x.2.1, (x.2.2.1, (x.2.2.2.1, ()))))))))).bind fun t8 => let v9 : Int := (IntKind.wrap IntKind.i64 (t8.1 + (1 : Int)))
 kn (v9, (t8.2.1, (t8.2.2.1, (t8.2.2.2.1, ()))))) else (none)) else (ke (x.2.1, (x.2.2.1, (x.2.2.2.1, ()))))
def Qo.l0 (k : Nat) : Nat → Qo.l0.σ → Option Qo.l0.τ := Q1c (Qo.l0.r k)
def Qo.l0.T : StT := ⟨.ptr 0 [] :: us 1 ++ .ptr 1 [] :: .ptr 2 [] :: us 8 ++ .dat (.int .i64) :: us 70, [.dat Qdw, .dat Qdu, .dat Qdu]⟩
def Qo.l0.os : List Out := [⟨(.exit 0), [.mask [2, 3], .auto 1], ⟨us 2 ++ .ptr 1 [] :: .ptr 2 [] :: us 79, [.dat Qdw, .dat Qdu, .dat Qdu]⟩⟩]
abbrev Qo.l2.σ : Type := Int × (List Int) × (List Int) × (List Int) × Unit
abbrev Qo.l2.τ : Type := Qdr 
def Qo.l2.r (k : Nat) {ρ : Type} (x : Qo.l2.σ) (kn : Qo.l2.σ → Option ρ) (ke : Qo.l2.τ → Option ρ) : Option ρ :=
 bif (decide (x.1 < (64 : Int))) then (let v11 : Int := (IntKind.wrap IntKind.i64 (x.1 - (2 : Int)))
 bif (decide (((0 : Int) ≤ v11) ∧ (v11 < ((64 : Nat) : Int)))) then (let v12 : Int := (List.getD x.2.2.2.1 (Int.toNat v11) (0 : Int))
 let v13 : Int := (IntKind.wrap IntKind.i64 (x.1 - (15 : Int)))
 bif (decide (((0 : Int) ≤ v13) ∧ (v13 < ((64 : Nat) : Int)))) then (let v14 : Int := (List.getD x.2.2.2.1 (Int.toNat v13) (0 : Int))
 (Q0L k v12 (17 : Int)).bind fun t15 => (Q0L k v12 (19 : Int)).bind fun t16 => let v17 : Int := (Q1d BinOp.xor IntKind.u32 t15.1 t16.1)
 let v18 : Int := (Q29 IntKind.u32 v12 (10 : Int))
 (Q0L k v14 (7 : Int)).bind fun t19 => (Q0L k v14 (18 : Int)).bind fun t20 => let v21 : Int := (Q1d BinOp.xor IntKind.u32 t19.1 t20.1)
 let v22 : Int := (Q29 IntKind.u32 v14 (3 : Int))
 let v23 : Int := (IntKind.wrap IntKind.i64 (x.1 - (7 : Int)))
 bif (decide (((0 : Int) ≤ v23) ∧ (v23 < ((64 : Nat) : Int)))) then (let v24 : Int := (List.getD x.2.2.2.1 (Int.toNat v23) (0 : Int))
 let v25 : Int := (IntKind.wrap IntKind.u32 ((Q1d BinOp.xor IntKind.u32 v17 v18) + v24))
 let v26 : Int := (IntKind.wrap IntKind.u32 (v25 + (Q1d BinOp.xor IntKind.u32 v21 v22)))
 let v27 : Int := (IntKind.wrap IntKind.i64 (x.1 - (16 : Int)))
 bif (decide (((0 : Int) ≤ v27) ∧ (v27 < ((64 : Nat) : Int)))) then (let v28 : Int := (List.getD x.2.2.2.1 (Int.toNat v27) (0 : Int))
 let v29 : Int := (IntKind.wrap IntKind.u32 (v26 + v28))
 bif (decide (((0 : Int) ≤ x.1) ∧ (x.1 < ((64 : Nat) : Int)))) then (let v30 : Int := (IntKind.wrap IntKind.i64 (x.1 + (1 : Int)))
 kn (v30, (x.2.1, (x.2.2.1, ((List.set x.2.2.2.1 (Int.toNat x.1) v29), ()))))) else (none)) else (none)) else (none)) else (none)) else (none)) else (ke (x.2.1, (x.2.2.1, (x.2.2.2.1, ()))))
def Qo.l2 (k : Nat) : Nat → Qo.l2.σ → Option Qo.l2.τ := Q1c (Qo.l2.r k)
def Qo.l2.T : StT := ⟨us 2 ++ .ptr 1 [] :: .ptr 2 [] :: us 3 ++ .dat (.int .i64) :: us 75, [.dat Qdw, .dat Qdu, .dat Qdu]⟩
def Qo.l2.os : List Out := [⟨(.exit 4), [.mask [2, 3], .auto 1], ⟨us 2 ++ .ptr 1 [] :: .ptr 2 [] :: us 79, [.dat Qdw, .dat Qdu, .dat Qdu]⟩⟩]
abbrev Qo.τ : Type := ((List Int) × (List Int) × Unit)
def Qo.c (k : Nat) {ρ : Type} (b0 : (List Int)) (K : Qo.τ → Option ρ) : Option ρ :=
 (Qo.l0 k k ((0 : Int), (b0, ((List.replicate 64 (0 : Int)), ((List.replicate 64 (0 : Int)), ()))))).bind fun t10 => (Qo.l2 k k ((16 : Int), (t10.1, (t10.2.1, (t10.2.2.1, ()))))).bind fun t31 => let v32 : (List Int) := t31.2.2.1
 K (v32, (t31.1, ()))
def Qo (k : Nat) (b0 : (List Int)) : Option Qo.τ := Qo.c k b0 some
def Qo.T : Q1g := ⟨[.ptr 0 []], [.dat Qdw], 1⟩
def Qo.os : List Out := [⟨.ret, [.freeze (.slot 0), .auto 1], ⟨[.dat Qdu], [.dat Qdw]⟩⟩]
def Qo.sem (k : Nat) : Qr := Q1j Qo.T Qo.os fun x => Qo k x.1
noncomputable def Qo.ctx (k : Nat) : Ctx := ⟨Tryz.prog, gam [(165, (Q0L.sem k))]⟩
theorem Qo.gok (k : Nat) : ∀ f, Qm Tryz.prog f ((Qo.ctx k).Γ f) := (Q8 (Q0L.sem_ok k) QK)
theorem Qo.l1.round (k : Nat) : Q1b (Qo.ctx k) (Q0y (Func.code Tryz.f163) [1, 1, 0, 1, 0, 0, 1, 1, 0, 0, 1, 1, 0, 0]) (.nil) Qo.l1.T [.mask [0, 2, 3, 4, 12, 22, 23, 24], .auto 1] Qo.l1.os (Qo.l1.r k) := by
 intro ρ x kn ke; kernel_rfl
theorem Qo.l1.ok (k : Nat) : StOK 1 Tryz.prog (.loop (Q0y (Func.code Tryz.f163) [1, 1, 0, 1, 0, 0, 1, 1, 0, 0, 1, 1, 0, 0])) (QO Qo.l1.T Qo.l1.os (Qo.l1 k k)) :=
 Q1e (C := Qo.ctx k) (Qo.gok k) Tryz.mix Q1.nil (by kernel_rfl) (by kernel_rfl) (by kernel_rfl) (Qo.l1.round k) k
theorem Qo.l2.round (k : Nat) : Q1b (Qo.ctx k) (Q0y (Func.code Tryz.f163) [1, 1, 1, 0, 1, 0, 0]) (.nil) Qo.l2.T [.mask [2, 3, 7], .auto 1] Qo.l2.os (Qo.l2.r k) := by
 intro ρ x kn ke; kernel_rfl
theorem Qo.l2.ok (k : Nat) : StOK 1 Tryz.prog (.loop (Q0y (Func.code Tryz.f163) [1, 1, 1, 0, 1, 0, 0])) (QO Qo.l2.T Qo.l2.os (Qo.l2 k k)) :=
 Q1e (C := Qo.ctx k) (Qo.gok k) Tryz.mix Q1.nil (by kernel_rfl) (by kernel_rfl) (by kernel_rfl) (Qo.l2.round k) k
theorem Qo.l0.round (k : Nat) : Q1b (Qo.ctx k) (Q0y (Func.code Tryz.f163) [1, 1, 0, 1, 0, 0]) (.node [] none (.nil) (.node [] none (.nil) (.node [] none (.node [] none (.node [] none (.nil) (.node [] none (.nil) (.node [] none (.node [.mask [0, 2, 3, 4, 12, 22, 23, 24], .auto 1] (some (QO Qo.l1.T Qo.l1.os (Qo.l1 k k))) .nil .nil) (.nil)))) (.nil)) (.nil)))) Qo.l0.T [.mask [0, 2, 3, 12], .auto 1] Qo.l0.os (Qo.l0.r k) := by
 intro ρ x kn ke; kernel_rfl
theorem Qo.l0.ok (k : Nat) : StOK 1 Tryz.prog (.loop (Q0y (Func.code Tryz.f163) [1, 1, 0, 1, 0, 0])) (QO Qo.l0.T Qo.l0.os (Qo.l0 k k)) :=
 Q1e (C := Qo.ctx k) (Qo.gok k) Tryz.mix (Q1.seq Q1.nil (Q1.seq Q1.nil (Q1.seq (Q1.block (Q1.seq Q1.nil (Q1.seq Q1.nil (Q1.block (Q1.loop (by kernel_rfl) (Qo.l1.ok k)))))) Q1.nil))) (by kernel_rfl) (by kernel_rfl) (by kernel_rfl) (Qo.l0.round k) k
def Qo.ann (k : Nat) : Ann := .node [] none (.nil) (.node [] none (.nil) (.node [] none (.node [] none (.nil) (.node [] none (.node [.mask [0, 2, 3, 12], .auto 1] (some (QO Qo.l0.T Qo.l0.os (Qo.l0 k k))) .nil .nil) (.nil))) (.node [] none (.node [] none (.nil) (.node [] none (.node [.mask [2, 3, 7], .auto 1] (some (QO Qo.l2.T Qo.l2.os (Qo.l2 k k))) .nil .nil) (.nil))) (.nil))))
theorem Qo.body (k : Nat) : Q1n (Qo.ctx k) Tryz.f163 (Func.code Tryz.f163) (Qo.ann k) Qo.T Qo.os (fun x K => Qo.c k x.1 K) := by
 intro ρ x K; kernel_rfl
theorem Qo.sem_ok (k : Nat) : Qm Tryz.prog 163 (Qo.sem k) :=
 Q0U (C := Qo.ctx k) (Qo.gok k) Tryz.mix (c := Func.code Tryz.f163) (ann := Qo.ann k) (T := Qo.T) (os := Qo.os) (fun x K => Qo.c k x.1 K) Tryz.func163 (by kernel_rfl) (by kernel_rfl) (Q1.seq Q1.nil (Q1.seq Q1.nil (Q1.seq (Q1.seq Q1.nil (Q1.block (Q1.loop (by kernel_rfl) (Qo.l0.ok k)))) (Q1.seq (Q1.seq Q1.nil (Q1.block (Q1.loop (by kernel_rfl) (Qo.l2.ok k)))) Q1.nil)))) (Qo.body k) (by kernel_rfl) (by kernel_rfl) (by kernel_rfl)
abbrev Q0C.τ : Type := Qdy 
def Q0C.c (k : Nat) {ρ : Type}  (K : Q0C.τ → Option ρ) : Option ρ :=
 let v0 : (List Int) := (List.set (List.set (List.set (List.set (List.set (List.set (List.set (List.set (List.set (List.set (List.set (List.set (List.set (List.set (List.set (List.set (List.set (List.set (List.set (List.set (List.set (List.set (List.set (List.set (List.set (List.set (List.set (List.set (List.set (List.set (List.set (List.set (List.set (List.set (List.set (List.set (List.set (List.set (List.set (List.set (List.set (List.set (List.set (List.set (List.set (List.set (List.set (List.set (List.set (List.set (List.set (List.set (List.set (List.set (List.set (List.set (List.set (List.set (List.set (List.set (List.set (List.set (List.set (List.set (List.replicate 64 (0 : Int)) 0 (1116352408 : Int)) 1 (1899447441 : Int)) 2 (3049323471 : Int)) 3 (3921009573 : Int)) 4 (961987163 : Int)) 5 (1508970993 : Int)) 6 (2453635748 : Int)) 7 (2870763221 : Int)) 8 (3624381080 : Int)) 9 (310598401 : Int)) 10 (607225278 : Int)) 11 (1426881987 : Int)) 12 (1925078388 : Int)) 13 (2162078206 : Int)) 14 (2614888103 : Int)) 15 (3248222580 : Int)) 16 (3835390401 : Int)) 17 (4022224774 : Int)) 18 (264347078 : Int)) 19 (604807628 : Int)) 20 (770255983 : Int)) 21 (1249150122 : Int)) 22 (1555081692 : Int)) 23 (1996064986 : Int)) 24 (2554220882 : Int)) 25 (2821834349 : Int)) 26 (2952996808 : Int)) 27 (3210313671 : Int)) 28 (3336571891 : Int)) 29 (3584528711 : Int)) 30 (113926993 : Int)) 31 (338241895 : Int)) 32 (666307205 : Int)) 33 (773529912 : Int)) 34 (1294757372 : Int)) 35 (1396182291 : Int)) 36 (1695183700 : Int)) 37 (1986661051 : Int)) 38 (2177026350 : Int)) 39 (2456956037 : Int)) 40 (2730485921 : Int)) 41 (2820302411 : Int)) 42 (3259730800 : Int)) 43 (3345764771 : Int)) 44 (3516065817 : Int)) 45 (3600352804 : Int)) 46 (4094571909 : Int)) 47 (275423344 : Int)) 48 (430227734 : Int)) 49 (506948616 : Int)) 50 (659060556 : Int)) 51 (883997877 : Int)) 52 (958139571 : Int)) 53 (1322822218 : Int)) 54 (1537002063 : Int)) 55 (1747873779 : Int)) 56 (1955562222 : Int)) 57 (2024104815 : Int)) 58 (2227730452 : Int)) 59 (2361852424 : Int)) 60 (2428436474 : Int)) 61 (2756734187 : Int)) 62 (3204031479 : Int)) 63 (3329325298 : Int))
 K (v0, ())
def Q0C (k : Nat)  : Option Q0C.τ := Q0C.c k  some
def Q0C.T : Q1g := ⟨[], [], 0⟩
def Q0C.os : List Out := [⟨.ret, [.auto 0], ⟨[.ptr 0 []], [.dat Qdu]⟩⟩]
def Q0C.sem (k : Nat) : Qr := Q1j Q0C.T Q0C.os fun x => Q0C k 
noncomputable def Q0C.ctx (k : Nat) : Ctx := ⟨Tryz.prog, gam []⟩
theorem Q0C.gok (k : Nat) : ∀ f, Qm Tryz.prog f ((Q0C.ctx k).Γ f) := QK
def Q0C.ann (k : Nat) : Ann := .nil
theorem Q0C.body (k : Nat) : Q1n (Q0C.ctx k) Tryz.f164 (Func.code Tryz.f164) (Q0C.ann k) Q0C.T Q0C.os (fun x K => Q0C.c k  K) := by
 intro ρ x K; kernel_rfl
theorem Q0C.sem_ok (k : Nat) : Qm Tryz.prog 164 (Q0C.sem k) :=
 Q0U (C := Q0C.ctx k) (Q0C.gok k) Tryz.mix (c := Func.code Tryz.f164) (ann := Q0C.ann k) (T := Q0C.T) (os := Q0C.os) (fun x K => Q0C.c k  K) Tryz.func164 (by kernel_rfl) (by kernel_rfl) Q1.nil (Q0C.body k) (by kernel_rfl) (by kernel_rfl) (by kernel_rfl)
abbrev QV.l0.σ : Type := Int × (List Int) × (List Int) × (List Int) × (List Int) × (List Int) × Unit
abbrev QV.l0.τ : Type := Qdr 
def QV.l0.r (k : Nat) {ρ : Type} (x : QV.l0.σ) (kn : QV.l0.σ → Option ρ) (ke : QV.l0.τ → Option ρ) : Option ρ :=
 bif (decide (x.1 < (64 : Int))) then (let v2 : Int := (List.getD x.2.2.2.2.2.1 0 (0 : Int))
 let v3 : Int := (List.getD x.2.2.2.2.2.1 4 (0 : Int))
 (Q0L k v3 (6 : Int)).bind fun t4 => (Q0L k v3 (11 : Int)).bind fun t5 => let v6 : Int := (Q1d BinOp.xor IntKind.u32 t4.1 t5.1)
 (Q0L k v3 (25 : Int)).bind fun t7 => let v8 : Int := (Q1d BinOp.xor IntKind.u32 v6 t7.1)
 (Q0L k v2 (2 : Int)).bind fun t9 => (Q0L k v2 (13 : Int)).bind fun t10 => let v11 : Int := (Q1d BinOp.xor IntKind.u32 t9.1 t10.1)
 (Q0L k v2 (22 : Int)).bind fun t12 => let v13 : Int := (Q1d BinOp.xor IntKind.u32 v11 t12.1)
 let v14 : Int := (List.getD x.2.2.2.2.2.1 5 (0 : Int))
 let v15 : Int := (List.getD x.2.2.2.2.2.1 6 (0 : Int))
 let v16 : Int := (Q1d BinOp.xor IntKind.u32 (Q1d BinOp.and IntKind.u32 v3 v14) (Q1d BinOp.and IntKind.u32 (notI IntKind.u32 v3) v15))
 let v17 : Int := (List.getD x.2.2.2.2.2.1 1 (0 : Int))
 let v18 : Int := (List.getD x.2.2.2.2.2.1 2 (0 : Int))
 let v19 : Int := (Q1d BinOp.xor IntKind.u32 (Q1d BinOp.and IntKind.u32 v2 v17) (Q1d BinOp.and IntKind.u32 v2 v18))
 let v20 : Int := (List.getD x.2.2.2.2.2.1 1 (0 : Int))
 let v21 : Int := (List.getD x.2.2.2.2.2.1 2 (0 : Int))
 let v22 : Int := (Q1d BinOp.xor IntKind.u32 v19 (Q1d BinOp.and IntKind.u32 v20 v21))
 let v23 : Int := (List.getD x.2.2.2.2.2.1 7 (0 : Int))
 let v24 : Int := (IntKind.wrap IntKind.u32 (v23 + v8))
 let v25 : Int := (IntKind.wrap IntKind.u32 (v24 + v16))
 bif (decide (((0 : Int) ≤ x.1) ∧ (x.1 < ((64 : Nat) : Int)))) then (let v26 : Int := (List.getD x.2.2.2.2.1 (Int.toNat x.1) (0 : Int))
 let v27 : Int := (IntKind.wrap IntKind.u32 (v25 + v26))
 bif (decide (((0 : Int) ≤ x.1) ∧ (x.1 < ((64 : Nat) : Int)))) then (let v28 : Int := (List.getD x.2.2.2.1 (Int.toNat x.1) (0 : Int))
 let v29 : Int := (IntKind.wrap IntKind.u32 (v27 + v28))
 let v30 : Int := (IntKind.wrap IntKind.u32 (v29 + v13))
 let v31 : Int := (IntKind.wrap IntKind.u32 (v30 + v22))
 let v32 : Int := (List.getD x.2.2.2.2.2.1 0 (0 : Int))
 let v33 : Int := (List.getD x.2.2.2.2.2.1 1 (0 : Int))
 let v34 : Int := (List.getD x.2.2.2.2.2.1 2 (0 : Int))
 let v35 : Int := (List.getD x.2.2.2.2.2.1 3 (0 : Int))
 let v36 : Int := (IntKind.wrap IntKind.u32 (v35 + v29))
 let v37 : Int := (List.getD x.2.2.2.2.2.1 4 (0 : Int))
 let v38 : Int := (List.getD x.2.2.2.2.2.1 5 (0 : Int))
 let v39 : Int := (List.getD x.2.2.2.2.2.1 6 (0 : Int))
 let v40 : (List Int) := (List.set (List.set (List.set (List.set (List.set (List.set (List.set (List.set (List.replicate 8 (0 : Int)) 0 v31) 1 v32) 2 v33) 3 v34) 4 v36) 5 v37) 6 v38) 7 v39)
 let v41 : Int := (IntKind.wrap IntKind.i64 (x.1 + (1 : Int)))
 kn (v41, (x.2.1, (x.2.2.1, (x.2.2.2.1, (x.2.2.2.2.1, (v40, ()))))))) else (none)) else (none)) else (ke (x.2.1, (x.2.2.1, (x.2.2.2.2.2.1, ()))))
def QV.l0 (k : Nat) : Nat → QV.l0.σ → Option QV.l0.τ := Q1c (QV.l0.r k)
def QV.l0.T : StT := ⟨us 2 ++ .ptr 0 [] :: us 1 ++ .ptr 1 [] :: .ptr 2 [] :: .ptr 3 [] :: .ptr 4 [] :: us 12 ++ .dat (.int .i64) :: us 99, [.dat Qdv, .dat Qdv, .dat Qdu, .dat Qdu, .dat Qdv]⟩
def QV.l0.os : List Out := [⟨(.exit 0), [.mask [2, 4, 7], .auto 0], ⟨us 2 ++ .ptr 0 [] :: us 1 ++ .ptr 1 [] :: us 2 ++ .ptr 2 [] :: us 112, [.dat Qdv, .dat Qdv, .dat Qdv]⟩⟩]
abbrev QV.l1.σ : Type := Int × (List Int) × (List Int) × (List Int) × Unit
abbrev QV.l1.τ : Type := ((List Int) × (List Int) × Unit)
def QV.l1.r (k : Nat) {ρ : Type} (x : QV.l1.σ) (kn : QV.l1.σ → Option ρ) (ke : QV.l1.τ → Option ρ) : Option ρ :=
 bif (decide (x.1 < (8 : Int))) then (bif (decide (((0 : Int) ≤ x.1) ∧ (x.1 < ((8 : Nat) : Int)))) then (let v43 : Int := (List.getD x.2.2.2.1 (Int.toNat x.1) (0 : Int))
 bif (decide (((0 : Int) ≤ x.1) ∧ (x.1 < ((8 : Nat) : Int)))) then (let v44 : Int := (List.getD x.2.1 (Int.toNat x.1) (0 : Int))
 let v45 : Int := (IntKind.wrap IntKind.u32 (v43 + v44))
 bif (decide (((0 : Int) ≤ x.1) ∧ (x.1 < ((8 : Nat) : Int)))) then (let v46 : Int := (IntKind.wrap IntKind.i64 (x.1 + (1 : Int)))
 kn (v46, (x.2.1, (x.2.2.1, ((List.set x.2.2.2.1 (Int.toNat x.1) v45), ()))))) else (none)) else (none)) else (none)) else (ke (x.2.2.1, (x.2.2.2.1, ())))
def QV.l1 (k : Nat) : Nat → QV.l1.σ → Option QV.l1.τ := Q1c (QV.l1.r k)
def QV.l1.T : StT := ⟨us 2 ++ .ptr 0 [] :: us 1 ++ .ptr 1 [] :: us 2 ++ .ptr 2 [] :: us 99 ++ .dat (.int .i64) :: us 12, [.dat Qdv, .dat Qdv, .dat Qdv]⟩
def QV.l1.os : List Out := [⟨(.exit 2), [.mask [4, 7], .auto 0], ⟨us 4 ++ .ptr 0 [] :: us 2 ++ .ptr 1 [] :: us 112, [.dat Qdv, .dat Qdv]⟩⟩]
def QV.c (k : Nat) {ρ : Type} (x_0 : (List Int)) (block : (List Int)) (K : (List Int) × Unit → Option ρ) : Option ρ :=
 (Qo k block).bind fun t0 => (Q0C k ).bind fun t1 => (QV.l0 k k ((0 : Int), (x_0, ((List.replicate 8 (0 : Int)), (t0.1, (t1.1, (x_0, ()))))))).bind fun t42 => (QV.l1 k k ((0 : Int), (t42.1, (t42.2.1, (t42.2.2.1, ()))))).bind fun t47 => let v48 : (List Int) := t47.2.1
 K (v48, ())
def QV (k : Nat) (x_0 : (List Int)) (block : (List Int)) : Option Qdy := QV.c k x_0 block some
def QV.tin : List Ty := [Qdv, Qdw]
def QV.tout : List Ty := [Qdv]
def QV.sem (k : Nat) : Qr := QX QV.tin QV.tout fun x => QV k x.1 x.2.1
noncomputable def QV.ctx (k : Nat) : Ctx := ⟨Tryz.prog, gam [(163, (Qo.sem k)), (164, (Q0C.sem k)), (165, (Q0L.sem k))]⟩
theorem QV.gok (k : Nat) : ∀ f, Qm Tryz.prog f ((QV.ctx k).Γ f) := (Q8 (Qo.sem_ok k) (Q8 (Q0C.sem_ok k) (Q8 (Q0L.sem_ok k) QK)))
theorem QV.l1.round (k : Nat) : Q1b (QV.ctx k) (Q0y (Func.code Tryz.f151) [1, 1, 1, 1, 0, 1, 0, 0]) (.nil) QV.l1.T [.mask [2, 4, 7, 107], .auto 0] QV.l1.os (QV.l1.r k) := by
 intro ρ x kn ke; kernel_rfl
theorem QV.l1.ok (k : Nat) : StOK 0 Tryz.prog (.loop (Q0y (Func.code Tryz.f151) [1, 1, 1, 1, 0, 1, 0, 0])) (QO QV.l1.T QV.l1.os (QV.l1 k k)) :=
 Q1e (C := QV.ctx k) (QV.gok k) Tryz.mix Q1.nil (by kernel_rfl) (by kernel_rfl) (by kernel_rfl) (QV.l1.round k) k
theorem QV.l0.round (k : Nat) : Q1b (QV.ctx k) (Q0y (Func.code Tryz.f151) [1, 1, 1, 0, 1, 0, 0]) (.nil) QV.l0.T [.mask [2, 4, 5, 6, 7, 20], .auto 0] QV.l0.os (QV.l0.r k) := by
 intro ρ x kn ke; kernel_rfl
theorem QV.l0.ok (k : Nat) : StOK 0 Tryz.prog (.loop (Q0y (Func.code Tryz.f151) [1, 1, 1, 0, 1, 0, 0])) (QO QV.l0.T QV.l0.os (QV.l0 k k)) :=
 Q1e (C := QV.ctx k) (QV.gok k) Tryz.mix Q1.nil (by kernel_rfl) (by kernel_rfl) (by kernel_rfl) (QV.l0.round k) k
def QV.ann (k : Nat) : Ann := .node [] none (.nil) (.node [] none (.nil) (.node [] none (.nil) (.node [] none (.node [] none (.nil) (.node [] none (.node [.mask [2, 4, 5, 6, 7, 20], .auto 0] (some (QO QV.l0.T QV.l0.os (QV.l0 k k))) .nil .nil) (.nil))) (.node [] none (.node [] none (.nil) (.node [] none (.node [.mask [2, 4, 7, 107], .auto 0] (some (QO QV.l1.T QV.l1.os (QV.l1 k k))) .nil .nil) (.nil))) (.nil)))))
theorem QV.body (k : Nat) : Q0Y (QV.ctx k) Tryz.f151 (Func.code Tryz.f151) (QV.ann k) QV.tin QV.tout (fun x K => QV.c k x.1 x.2.1 K) := by
 intro ρ x K; kernel_rfl
theorem QV.sem_ok (k : Nat) : Qm Tryz.prog 151 (QV.sem k) :=
 QD (C := QV.ctx k) (QV.gok k) Tryz.mix (c := Func.code Tryz.f151) (ann := QV.ann k) (tin := QV.tin) (tout := QV.tout) (fun x K => QV.c k x.1 x.2.1 K) Tryz.func151 (by kernel_rfl) (by kernel_rfl) (Q1.seq Q1.nil (Q1.seq Q1.nil (Q1.seq Q1.nil (Q1.seq (Q1.seq Q1.nil (Q1.block (Q1.loop (by kernel_rfl) (QV.l0.ok k)))) (Q1.seq (Q1.seq Q1.nil (Q1.block (Q1.loop (by kernel_rfl) (QV.l1.ok k)))) Q1.nil))))) (QV.body k)
abbrev Ql.l0.σ : Type := Qds × (List Int) × Unit
abbrev Ql.l0.τ : Type := Qdq 
def Ql.l0.r (k : Nat) {ρ : Type} (x : Ql.l0.σ) (kn : Ql.l0.σ → Option ρ) (ke : Ql.l0.τ → Option ρ) : Option ρ :=
 let v2 : Int := (((List.length x.2.1) : Nat) : Int)
 bif (decide (v2 ≥ (64 : Int))) then (let v3 : (List Int) := x.1.1
 bif (decide (64 ≤ (List.length x.2.1))) then (let v4 : (List Int) := (List.take 64 (List.drop 0 x.2.1))
 (QV k v3 v4).bind fun t5 => bif (decide (((0 : Int) ≤ (64 : Int)) ∧ (((64 : Int) ≤ (((List.length x.2.1) : Nat) : Int)) ∧ ((((List.length x.2.1) : Nat) : Int) ≤ (((List.length x.2.1) : Nat) : Int))))) then (kn ((t5.1, ((), (x.1.2.2.1, ()))), ((List.take (Int.toNat ((((List.length x.2.1) : Nat) : Int) - (64 : Int))) (List.drop 64 x.2.1)), ()))) else (none)) else (none)) else (ke ((x.1.1, ((), (x.1.2.2.1, ()))), (x.2.1, ())))
def Ql.l0 (k : Nat) : Nat → Ql.l0.σ → Option Ql.l0.τ := Q1c (Ql.l0.r k)
def Ql.l0.T : StT := ⟨.ptr 0 [] :: us 52, [.pair (.dat Qdv) (.pair (.vsl 1) (.dat Qdt)), .vec (.int .u8)]⟩
def Ql.l0.os : List Out := [⟨(.exit 0), [.mask [], .auto 1], ⟨us 53, [.pair (.dat Qdv) (.pair (.vsl 1) (.dat Qdt)), .vec (.int .u8)]⟩⟩]
abbrev Ql.τ : Type := Qdq 
def Ql.c (k : Nat) {ρ : Type} (s : ByteArray) (b0 : Qds) (K : Ql.τ → Option ρ) : Option ρ :=
 let v0 : Int := b0.2.2.1
 let v1 : Int := (IntKind.wrap IntKind.u64 (v0 + (IntKind.wrap IntKind.u64 (((ByteArray.size s) : Nat) : Int))))
 bif (Nat.ble ((List.length (Q0z s)) * 1) 140737488355328) then ((Ql.l0 k k ((b0.1, ((), (v1, ()))), ((Q0z s), ()))).bind fun t6 => K ((t6.1.1, ((), (t6.1.2.2.1, ()))), (t6.2.1, ()))) else (none)
def Ql (k : Nat) (s : ByteArray) (b0 : Qds) : Option Ql.τ := Ql.c k s b0 some
def Ql.T : Q1g := ⟨[.ptr 0 [], .dat .str], [.pair (.dat Qdv) (.pair (.nils) (.dat Qdt))], 1⟩
def Ql.os : List Out := [⟨.ret, [.auto 1], ⟨[], [.pair (.dat Qdv) (.pair (.vsl 1) (.dat Qdt)), .vec (.int .u8)]⟩⟩]
def Ql.sem (k : Nat) : Qr := Q1j Ql.T Ql.os fun x => Ql k x.1 x.2.1
noncomputable def Ql.ctx (k : Nat) : Ctx := ⟨Tryz.prog, gam [(151, (QV.sem k))]⟩
theorem Ql.gok (k : Nat) : ∀ f, Qm Tryz.prog f ((Ql.ctx k).Γ f) := (Q8 (QV.sem_ok k) QK)
theorem Ql.l0.round (k : Nat) : Q1b (Ql.ctx k) (Q0y (Func.code Tryz.f137) [1, 1, 1, 0, 0]) (.nil) Ql.l0.T [.mask [0], .auto 1] Ql.l0.os (Ql.l0.r k) := by
 intro ρ x kn ke; kernel_rfl
theorem Ql.l0.ok (k : Nat) : StOK 1 Tryz.prog (.loop (Q0y (Func.code Tryz.f137) [1, 1, 1, 0, 0])) (QO Ql.l0.T Ql.l0.os (Ql.l0 k k)) :=
 Q1e (C := Ql.ctx k) (Ql.gok k) Tryz.mix Q1.nil (by kernel_rfl) (by kernel_rfl) (by kernel_rfl) (Ql.l0.round k) k
def Ql.ann (k : Nat) : Ann := .node [] none (.nil) (.node [] none (.nil) (.node [] none (.nil) (.node [] none (.node [.mask [0], .auto 1] (some (QO Ql.l0.T Ql.l0.os (Ql.l0 k k))) .nil .nil) (.nil))))
theorem Ql.body (k : Nat) : Q1n (Ql.ctx k) Tryz.f137 (Func.code Tryz.f137) (Ql.ann k) Ql.T Ql.os (fun x K => Ql.c k x.1 x.2.1 K) := by
 intro ρ x K; kernel_rfl
theorem Ql.sem_ok (k : Nat) : Qm Tryz.prog 137 (Ql.sem k) :=
 Q0U (C := Ql.ctx k) (Ql.gok k) Tryz.mix (c := Func.code Tryz.f137) (ann := Ql.ann k) (T := Ql.T) (os := Ql.os) (fun x K => Ql.c k x.1 x.2.1 K) Tryz.func137 (by kernel_rfl) (by kernel_rfl) (Q1.seq Q1.nil (Q1.seq Q1.nil (Q1.seq Q1.nil (Q1.block (Q1.loop (by kernel_rfl) (Ql.l0.ok k)))))) (Ql.body k) (by kernel_rfl) (by kernel_rfl) (by kernel_rfl)
abbrev Q0d.τ : Type := (Qds × (List Int) × Qds × (List Int) × Unit)
def Q0d.c (k : Nat) {ρ : Type} (b0 : Qds) (b1 : (List Int)) (K : Q0d.τ → Option ρ) : Option ρ :=
 let v0 : (List Int) := b0.1
 bif (Nat.ble ((List.length b1) * 1) 140737488355328) then (let v1 : Int := b0.2.2.1
 K ((b0.1, ((), (b0.2.2.1, ()))), (b1, ((v0, ((), (v1, ()))), (b1, ()))))) else (none)
def Q0d (k : Nat) (b0 : Qds) (b1 : (List Int)) : Option Q0d.τ := Q0d.c k b0 b1 some
def Q0d.T : Q1g := ⟨[.ptr 0 []], [.pair (.dat Qdv) (.pair (.vsl 1) (.dat Qdt)), .vec (.int .u8)], 1⟩
def Q0d.os : List Out := [⟨.ret, [.auto 1], ⟨[.ptr 2 []], [.pair (.dat Qdv) (.pair (.vsl 1) (.dat Qdt)), .vec (.int .u8), .pair (.dat Qdv) (.pair (.vsl 3) (.dat Qdt)), .vec (.int .u8)]⟩⟩]
def Q0d.sem (k : Nat) : Qr := Q1j Q0d.T Q0d.os fun x => Q0d k x.1 x.2.1
noncomputable def Q0d.ctx (k : Nat) : Ctx := ⟨Tryz.prog, gam []⟩
theorem Q0d.gok (k : Nat) : ∀ f, Qm Tryz.prog f ((Q0d.ctx k).Γ f) := QK
def Q0d.ann (k : Nat) : Ann := .nil
theorem Q0d.body (k : Nat) : Q1n (Q0d.ctx k) Tryz.f152 (Func.code Tryz.f152) (Q0d.ann k) Q0d.T Q0d.os (fun x K => Q0d.c k x.1 x.2.1 K) := by
 intro ρ x K; kernel_rfl
theorem Q0d.sem_ok (k : Nat) : Qm Tryz.prog 152 (Q0d.sem k) :=
 Q0U (C := Q0d.ctx k) (Q0d.gok k) Tryz.mix (c := Func.code Tryz.f152) (ann := Q0d.ann k) (T := Q0d.T) (os := Q0d.os) (fun x K => Q0d.c k x.1 x.2.1 K) Tryz.func152 (by kernel_rfl) (by kernel_rfl) Q1.nil (Q0d.body k) (by kernel_rfl) (by kernel_rfl) (by kernel_rfl)
abbrev Q0T.l0.σ : Type := Int × Int × (List Int) × Unit
abbrev Q0T.l0.τ : Type := Qdy 
def Q0T.l0.r (k : Nat) {ρ : Type} (x : Q0T.l0.σ) (kn : Q0T.l0.σ → Option ρ) (ke : Q0T.l0.τ → Option ρ) : Option ρ :=
 bif (decide (x.2.1 < (8 : Int))) then (let v5 : Int := (Q30 IntKind.u64 x.1 (3 : Int))
 let v6 : Int := (IntKind.wrap IntKind.i64 ((7 : Int) - x.2.1))
 let v7 : Int := (IntKind.wrap IntKind.i64 ((8 : Int) * v6))
 bif (decide ((0 : Int) ≤ v7)) then (bif (Nat.ble (((List.length x.2.2.1) + (List.length (List.set (List.replicate 1 (0 : Int)) 0 (IntKind.wrap IntKind.u8 (Q29 IntKind.u64 v5 v7))))) * 1) 140737488355328) then (let v8 : Int := (IntKind.wrap IntKind.i64 (x.2.1 + (1 : Int)))
 kn (x.1, (v8, ((x.2.2.1 ++ (List.set (List.replicate 1 (0 : Int)) 0 (IntKind.wrap IntKind.u8 (Q29 IntKind.u64 v5 v7)))), ())))) else (none)) else (none)) else (ke (x.2.2.1, ()))
def Q0T.l0 (k : Nat) : Nat → Q0T.l0.σ → Option Q0T.l0.τ := Q1c (Q0T.l0.r k)
def Q0T.l0.T : StT := ⟨.dat (.int .u64) :: us 3 ++ .vsl 0 :: us 14 ++ .dat (.int .i64) :: us 15, [.vec (.int .u8)]⟩
def Q0T.l0.os : List Out := [⟨(.exit 0), [.mask [4], .auto 0], ⟨us 4 ++ .vsl 0 :: us 30, [.vec (.int .u8)]⟩⟩]
def Q0T.c (k : Nat) {ρ : Type} (n : Int) (K : ByteArray × Unit → Option ρ) : Option ρ :=
 let v0 : Int := (IntKind.wrap IntKind.i64 (Int.tmod n (64 : Int)))
 let v1 : Int := (IntKind.wrap IntKind.i64 ((119 : Int) - v0))
 let v2 : Int := (IntKind.wrap IntKind.i64 ((1 : Int) + (Int.tmod v1 (64 : Int))))
 let v3 : Int := (IntKind.wrap IntKind.i64 ((1 : Int) + (Int.tmod v1 (64 : Int))))
 let v4 : Int := (IntKind.wrap IntKind.i64 (v3 + (8 : Int)))
 bif ((decide (((0 : Int) ≤ v2) ∧ (v2 ≤ v4))) && (Nat.ble ((Int.toNat v4) * 1) 140737488355328)) then (bif (decide (((0 : Int) ≤ (0 : Int)) ∧ ((0 : Int) < (((List.length (List.replicate (Int.toNat v2) (0 : Int))) : Nat) : Int)))) then ((Q0T.l0 k k (n, ((0 : Int), ((List.set (List.replicate (Int.toNat v2) (0 : Int)) 0 (128 : Int)), ())))).bind fun t9 => K ((bytesOf t9.1), ())) else (none)) else (none)
def Q0T (k : Nat) (n : Int) : Option (ByteArray × Unit) := Q0T.c k n some
def Q0T.tin : List Ty := [(.int .u64)]
def Q0T.tout : List Ty := [.str]
def Q0T.sem (k : Nat) : Qr := QX Q0T.tin Q0T.tout fun x => Q0T k x.1
noncomputable def Q0T.ctx (k : Nat) : Ctx := ⟨Tryz.prog, gam []⟩
theorem Q0T.gok (k : Nat) : ∀ f, Qm Tryz.prog f ((Q0T.ctx k).Γ f) := QK
theorem Q0T.l0.round (k : Nat) : Q1b (Q0T.ctx k) (Q0y (Func.code Tryz.f153) [1, 1, 1, 1, 0, 1, 0, 0]) (.nil) Q0T.l0.T [.mask [0, 4, 19], .auto 0] Q0T.l0.os (Q0T.l0.r k) := by
 intro ρ x kn ke; kernel_rfl
theorem Q0T.l0.ok (k : Nat) : StOK 0 Tryz.prog (.loop (Q0y (Func.code Tryz.f153) [1, 1, 1, 1, 0, 1, 0, 0])) (QO Q0T.l0.T Q0T.l0.os (Q0T.l0 k k)) :=
 Q1e (C := Q0T.ctx k) (Q0T.gok k) Tryz.mix Q1.nil (by kernel_rfl) (by kernel_rfl) (by kernel_rfl) (Q0T.l0.round k) k
def Q0T.ann (k : Nat) : Ann := .node [] none (.nil) (.node [] none (.nil) (.node [] none (.nil) (.node [] none (.nil) (.node [] none (.node [] none (.nil) (.node [] none (.node [.mask [0, 4, 19], .auto 0] (some (QO Q0T.l0.T Q0T.l0.os (Q0T.l0 k k))) .nil .nil) (.nil))) (.nil)))))
theorem Q0T.body (k : Nat) : Q0Y (Q0T.ctx k) Tryz.f153 (Func.code Tryz.f153) (Q0T.ann k) Q0T.tin Q0T.tout (fun x K => Q0T.c k x.1 K) := by
 intro ρ x K; kernel_rfl
theorem Q0T.sem_ok (k : Nat) : Qm Tryz.prog 153 (Q0T.sem k) :=
 QD (C := Q0T.ctx k) (Q0T.gok k) Tryz.mix (c := Func.code Tryz.f153) (ann := Q0T.ann k) (tin := Q0T.tin) (tout := Q0T.tout) (fun x K => Q0T.c k x.1 K) Tryz.func153 (by kernel_rfl) (by kernel_rfl) (Q1.seq Q1.nil (Q1.seq Q1.nil (Q1.seq Q1.nil (Q1.seq Q1.nil (Q1.seq (Q1.seq Q1.nil (Q1.block (Q1.loop (by kernel_rfl) (Q0T.l0.ok k)))) Q1.nil))))) (Q0T.body k)
abbrev Qe.l0.σ : Type := Qds × (List Int) × Unit
abbrev Qe.l0.τ : Type := Qdq 
def Qe.l0.r (k : Nat) {ρ : Type} (x : Qe.l0.σ) (kn : Qe.l0.σ → Option ρ) (ke : Qe.l0.τ → Option ρ) : Option ρ :=
 let v2 : Int := (((List.length x.2.1) : Nat) : Int)
 bif (decide (v2 ≥ (64 : Int))) then (let v3 : (List Int) := x.1.1
 bif (decide (64 ≤ (List.length x.2.1))) then (let v4 : (List Int) := (List.take 64 (List.drop 0 x.2.1))
 (QV k v3 v4).bind fun t5 => bif (decide (((0 : Int) ≤ (64 : Int)) ∧ (((64 : Int) ≤ (((List.length x.2.1) : Nat) : Int)) ∧ ((((List.length x.2.1) : Nat) : Int) ≤ (((List.length x.2.1) : Nat) : Int))))) then (kn ((t5.1, ((), (x.1.2.2.1, ()))), ((List.take (Int.toNat ((((List.length x.2.1) : Nat) : Int) - (64 : Int))) (List.drop 64 x.2.1)), ()))) else (none)) else (none)) else (ke ((x.1.1, ((), (x.1.2.2.1, ()))), (x.2.1, ())))
def Qe.l0 (k : Nat) : Nat → Qe.l0.σ → Option Qe.l0.τ := Q1c (Qe.l0.r k)
def Qe.l0.T : StT := ⟨.ptr 0 [] :: us 52, [.pair (.dat Qdv) (.pair (.vsl 1) (.dat Qdt)), .vec (.int .u8)]⟩
def Qe.l0.os : List Out := [⟨(.exit 0), [.mask [], .auto 1], ⟨us 53, [.pair (.dat Qdv) (.pair (.vsl 1) (.dat Qdt)), .vec (.int .u8)]⟩⟩]
abbrev Qe.τ : Type := Qdq 
def Qe.c (k : Nat) {ρ : Type} (s : ByteArray) (b0 : Qds) (b1 : (List Int)) (K : Qe.τ → Option ρ) : Option ρ :=
 let v0 : Int := b0.2.2.1
 let v1 : Int := (IntKind.wrap IntKind.u64 (v0 + (IntKind.wrap IntKind.u64 (((ByteArray.size s) : Nat) : Int))))
 bif (Nat.ble (((List.length b1) + (List.length (Q0z s))) * 1) 140737488355328) then ((Qe.l0 k k ((b0.1, ((), (v1, ()))), ((b1 ++ (Q0z s)), ()))).bind fun t6 => K ((t6.1.1, ((), (t6.1.2.2.1, ()))), (t6.2.1, ()))) else (none)
def Qe (k : Nat) (s : ByteArray) (b0 : Qds) (b1 : (List Int)) : Option Qe.τ := Qe.c k s b0 b1 some
def Qe.T : Q1g := ⟨[.ptr 0 [], .dat .str], [.pair (.dat Qdv) (.pair (.vsl 1) (.dat Qdt)), .vec (.int .u8)], 1⟩
def Qe.os : List Out := [⟨.ret, [.auto 1], ⟨[], [.pair (.dat Qdv) (.pair (.vsl 1) (.dat Qdt)), .vec (.int .u8)]⟩⟩]
def Qe.sem (k : Nat) : Qr := Q1j Qe.T Qe.os fun x => Qe k x.1 x.2.1 x.2.2.1
noncomputable def Qe.ctx (k : Nat) : Ctx := ⟨Tryz.prog, gam [(151, (QV.sem k))]⟩
theorem Qe.gok (k : Nat) : ∀ f, Qm Tryz.prog f ((Qe.ctx k).Γ f) := (Q8 (QV.sem_ok k) QK)
theorem Qe.l0.round (k : Nat) : Q1b (Qe.ctx k) (Q0y (Func.code Tryz.f137) [1, 1, 1, 0, 0]) (.nil) Qe.l0.T [.mask [0], .auto 1] Qe.l0.os (Qe.l0.r k) := by
 intro ρ x kn ke; kernel_rfl
theorem Qe.l0.ok (k : Nat) : StOK 1 Tryz.prog (.loop (Q0y (Func.code Tryz.f137) [1, 1, 1, 0, 0])) (QO Qe.l0.T Qe.l0.os (Qe.l0 k k)) :=
 Q1e (C := Qe.ctx k) (Qe.gok k) Tryz.mix Q1.nil (by kernel_rfl) (by kernel_rfl) (by kernel_rfl) (Qe.l0.round k) k
def Qe.ann (k : Nat) : Ann := .node [] none (.nil) (.node [] none (.nil) (.node [] none (.nil) (.node [] none (.node [.mask [0], .auto 1] (some (QO Qe.l0.T Qe.l0.os (Qe.l0 k k))) .nil .nil) (.nil))))
theorem Qe.body (k : Nat) : Q1n (Qe.ctx k) Tryz.f137 (Func.code Tryz.f137) (Qe.ann k) Qe.T Qe.os (fun x K => Qe.c k x.1 x.2.1 x.2.2.1 K) := by
 intro ρ x K; kernel_rfl
theorem Qe.sem_ok (k : Nat) : Qm Tryz.prog 137 (Qe.sem k) :=
 Q0U (C := Qe.ctx k) (Qe.gok k) Tryz.mix (c := Func.code Tryz.f137) (ann := Qe.ann k) (T := Qe.T) (os := Qe.os) (fun x K => Qe.c k x.1 x.2.1 x.2.2.1 K) Tryz.func137 (by kernel_rfl) (by kernel_rfl) (Q1.seq Q1.nil (Q1.seq Q1.nil (Q1.seq Q1.nil (Q1.block (Q1.loop (by kernel_rfl) (Qe.l0.ok k)))))) (Qe.body k) (by kernel_rfl) (by kernel_rfl) (by kernel_rfl)
abbrev Qc.l1.σ : Type := Int × Int × (List Int) × Int × Int × Qds × (List Int) × (List Int) × (List Int) × Unit
abbrev Qc.l1.τ : Type := ((List Int) × Int × Qds × (List Int) × (List Int) × (List Int) × Unit)
def Qc.l1.r (k : Nat) {ρ : Type} (x : Qc.l1.σ) (kn : Qc.l1.σ → Option ρ) (ke : Qc.l1.τ → Option ρ) : Option ρ :=
 bif (decide (x.2.2.2.2.1 < (4 : Int))) then (let v6 : Int := (IntKind.wrap IntKind.i64 ((4 : Int) * x.1))
 let v7 : Int := (IntKind.wrap IntKind.i64 (v6 + x.2.2.2.2.1))
 let v8 : Int := (IntKind.wrap IntKind.i64 ((3 : Int) - x.2.2.2.2.1))
 let v9 : Int := (IntKind.wrap IntKind.i64 ((8 : Int) * v8))
 bif (decide ((0 : Int) ≤ v9)) then (let v10 : Int := (Q29 IntKind.u32 x.2.1 v9)
 bif (decide (((0 : Int) ≤ v7) ∧ (v7 < ((32 : Nat) : Int)))) then (let v11 : Int := (IntKind.wrap IntKind.i64 (x.2.2.2.2.1 + (1 : Int)))
 kn (x.1, (x.2.1, (x.2.2.1, (x.2.2.2.1, (v11, ((x.2.2.2.2.2.1.1, ((), (x.2.2.2.2.2.1.2.2.1, ()))), (x.2.2.2.2.2.2.1, (x.2.2.2.2.2.2.2.1, ((List.set x.2.2.2.2.2.2.2.2.1 (Int.toNat v7) (IntKind.wrap IntKind.u8 v10)), ())))))))))) else (none)) else (none)) else (ke (x.2.2.1, (x.2.2.2.1, ((x.2.2.2.2.2.1.1, ((), (x.2.2.2.2.2.1.2.2.1, ()))), (x.2.2.2.2.2.2.1, (x.2.2.2.2.2.2.2.1, (x.2.2.2.2.2.2.2.2.1, ())))))))
def Qc.l1 (k : Nat) : Nat → Qc.l1.σ → Option Qc.l1.τ := Q1c (Qc.l1.r k)
def Qc.l1.T : StT := ⟨us 2 ++ .ptr 2 [] :: us 1 ++ .ptr 3 [] :: .dat (.int .i64) :: .dat (.int .u32) :: us 17 ++ .dat Qdv :: .dat (.int .i64) :: us 3 ++ .dat (.int .i64) :: us 16, [.pair (.dat Qdv) (.pair (.vsl 1) (.dat Qdt)), .vec (.int .u8), .dat Qdx, .dat Qdx]⟩
def Qc.l1.os : List Out := [⟨(.exit 2), [.mask [2, 4, 24, 25], .auto 1], ⟨us 2 ++ .ptr 2 [] :: us 1 ++ .ptr 3 [] :: us 19 ++ .dat Qdv :: .dat (.int .i64) :: us 20, [.pair (.dat Qdv) (.pair (.vsl 1) (.dat Qdt)), .vec (.int .u8), .dat Qdx, .dat Qdx]⟩⟩]
abbrev Qc.l0.σ : Type := (List Int) × Int × Qds × (List Int) × (List Int) × (List Int) × Unit
abbrev Qc.l0.τ : Type := (Qds × (List Int) × (List Int) × (List Int) × Unit)
def Qc.l0.r (k : Nat) {ρ : Type} (x : Qc.l0.σ) (kn : Qc.l0.σ → Option ρ) (ke : Qc.l0.τ → Option ρ) : Option ρ :=
 bif (decide (x.2.1 < (8 : Int))) then (bif (decide (((0 : Int) ≤ x.2.1) ∧ (x.2.1 < ((8 : Nat) : Int)))) then (let v5 : Int := (List.getD x.1 (Int.toNat x.2.1) (0 : Int))
 (Qc.l1 k k (x.2.1, (v5, (x.1, (x.2.1, ((0 : Int), ((x.2.2.1.1, ((), (x.2.2.1.2.2.1, ()))), (x.2.2.2.1, (x.2.2.2.2.1, (x.2.2.2.2.2.1, ())))))))))).bind fun t12 => let v13 : Int := (IntKind.wrap IntKind.i64 (t12.2.1 + (1 : Int)))
 kn (t12.1, (v13, ((t12.2.2.1.1, ((), (t12.2.2.1.2.2.1, ()))), (t12.2.2.2.1, (t12.2.2.2.2.1, (t12.2.2.2.2.2.1, ()))))))) else (none)) else (ke ((x.2.2.1.1, ((), (x.2.2.1.2.2.1, ()))), (x.2.2.2.1, (x.2.2.2.2.1, (x.2.2.2.2.2.1, ())))))
def Qc.l0 (k : Nat) : Nat → Qc.l0.σ → Option Qc.l0.τ := Q1c (Qc.l0.r k)
def Qc.l0.T : StT := ⟨us 2 ++ .ptr 2 [] :: us 1 ++ .ptr 3 [] :: us 19 ++ .dat Qdv :: .dat (.int .i64) :: us 20, [.pair (.dat Qdv) (.pair (.vsl 1) (.dat Qdt)), .vec (.int .u8), .dat Qdx, .dat Qdx]⟩
def Qc.l0.os : List Out := [⟨(.exit 0), [.mask [2, 4], .auto 1], ⟨us 2 ++ .ptr 2 [] :: us 1 ++ .ptr 3 [] :: us 41, [.pair (.dat Qdv) (.pair (.vsl 1) (.dat Qdt)), .vec (.int .u8), .dat Qdx, .dat Qdx]⟩⟩]
abbrev Qc.τ : Type := ((List Int) × Qds × (List Int) × Unit)
def Qc.c (k : Nat) {ρ : Type} (b0 : Qds) (b1 : (List Int)) (K : Qc.τ → Option ρ) : Option ρ :=
 (Q0d k (b0.1, ((), (b0.2.2.1, ()))) b1).bind fun t0 => let v1 : Int := t0.1.2.2.1
 (Q0T k v1).bind fun t2 => (Qe k t2.1 (t0.2.2.1.1, ((), (t0.2.2.1.2.2.1, ()))) t0.2.2.2.1).bind fun t3 => let v4 : (List Int) := t3.1.1
 (Qc.l0 k k (v4, ((0 : Int), ((t0.1.1, ((), (t0.1.2.2.1, ()))), (t0.2.1, ((List.replicate 32 (0 : Int)), ((List.replicate 32 (0 : Int)), ()))))))).bind fun t14 => let v15 : (List Int) := t14.2.2.2.1
 K (v15, ((t14.1.1, ((), (t14.1.2.2.1, ()))), (t14.2.1, ())))
def Qc (k : Nat) (b0 : Qds) (b1 : (List Int)) : Option Qc.τ := Qc.c k b0 b1 some
def Qc.T : Q1g := ⟨[.ptr 0 []], [.pair (.dat Qdv) (.pair (.vsl 1) (.dat Qdt)), .vec (.int .u8)], 1⟩
def Qc.os : List Out := [⟨.ret, [.freeze (.slot 0), .auto 1], ⟨[.dat Qdx], [.pair (.dat Qdv) (.pair (.vsl 1) (.dat Qdt)), .vec (.int .u8)]⟩⟩]
def Qc.sem (k : Nat) : Qr := Q1j Qc.T Qc.os fun x => Qc k x.1 x.2.1
noncomputable def Qc.ctx (k : Nat) : Ctx := ⟨Tryz.prog, gam [(152, (Q0d.sem k)), (153, (Q0T.sem k)), (137, (Qe.sem k))]⟩
theorem Qc.gok (k : Nat) : ∀ f, Qm Tryz.prog f ((Qc.ctx k).Γ f) := (Q8 (Q0d.sem_ok k) (Q8 (Q0T.sem_ok k) (Q8 (Qe.sem_ok k) QK)))
theorem Qc.l1.round (k : Nat) : Q1b (Qc.ctx k) (Q0y (Func.code Tryz.f138) [1, 1, 1, 1, 1, 0, 1, 0, 0, 1, 1, 0, 0, 1, 1, 0, 0]) (.nil) Qc.l1.T [.mask [2, 4, 5, 6, 24, 25, 29], .auto 1] Qc.l1.os (Qc.l1.r k) := by
 intro ρ x kn ke; kernel_rfl
theorem Qc.l1.ok (k : Nat) : StOK 1 Tryz.prog (.loop (Q0y (Func.code Tryz.f138) [1, 1, 1, 1, 1, 0, 1, 0, 0, 1, 1, 0, 0, 1, 1, 0, 0])) (QO Qc.l1.T Qc.l1.os (Qc.l1 k k)) :=
 Q1e (C := Qc.ctx k) (Qc.gok k) Tryz.mix Q1.nil (by kernel_rfl) (by kernel_rfl) (by kernel_rfl) (Qc.l1.round k) k
theorem Qc.l0.round (k : Nat) : Q1b (Qc.ctx k) (Q0y (Func.code Tryz.f138) [1, 1, 1, 1, 1, 0, 1, 0, 0]) (.node [] none (.nil) (.node [] none (.nil) (.node [] none (.node [] none (.node [] none (.nil) (.node [] none (.nil) (.node [] none (.node [.mask [2, 4, 5, 6, 24, 25, 29], .auto 1] (some (QO Qc.l1.T Qc.l1.os (Qc.l1 k k))) .nil .nil) (.nil)))) (.nil)) (.nil)))) Qc.l0.T [.mask [2, 4, 24, 25], .auto 1] Qc.l0.os (Qc.l0.r k) := by
 intro ρ x kn ke; kernel_rfl
theorem Qc.l0.ok (k : Nat) : StOK 1 Tryz.prog (.loop (Q0y (Func.code Tryz.f138) [1, 1, 1, 1, 1, 0, 1, 0, 0])) (QO Qc.l0.T Qc.l0.os (Qc.l0 k k)) :=
 Q1e (C := Qc.ctx k) (Qc.gok k) Tryz.mix (Q1.seq Q1.nil (Q1.seq Q1.nil (Q1.seq (Q1.block (Q1.seq Q1.nil (Q1.seq Q1.nil (Q1.block (Q1.loop (by kernel_rfl) (Qc.l1.ok k)))))) Q1.nil))) (by kernel_rfl) (by kernel_rfl) (by kernel_rfl) (Qc.l0.round k) k
def Qc.ann (k : Nat) : Ann := .node [] none (.nil) (.node [] none (.nil) (.node [] none (.nil) (.node [] none (.nil) (.node [] none (.nil) (.node [] none (.node [] none (.nil) (.node [] none (.node [.mask [2, 4, 24, 25], .auto 1] (some (QO Qc.l0.T Qc.l0.os (Qc.l0 k k))) .nil .nil) (.nil))) (.nil))))))
theorem Qc.body (k : Nat) : Q1n (Qc.ctx k) Tryz.f138 (Func.code Tryz.f138) (Qc.ann k) Qc.T Qc.os (fun x K => Qc.c k x.1 x.2.1 K) := by
 intro ρ x K; kernel_rfl
theorem Qc.sem_ok (k : Nat) : Qm Tryz.prog 138 (Qc.sem k) :=
 Q0U (C := Qc.ctx k) (Qc.gok k) Tryz.mix (c := Func.code Tryz.f138) (ann := Qc.ann k) (T := Qc.T) (os := Qc.os) (fun x K => Qc.c k x.1 x.2.1 K) Tryz.func138 (by kernel_rfl) (by kernel_rfl) (Q1.seq Q1.nil (Q1.seq Q1.nil (Q1.seq Q1.nil (Q1.seq Q1.nil (Q1.seq Q1.nil (Q1.seq (Q1.seq Q1.nil (Q1.block (Q1.loop (by kernel_rfl) (Qc.l0.ok k)))) Q1.nil)))))) (Qc.body k) (by kernel_rfl) (by kernel_rfl) (by kernel_rfl)
def Q1l.c (k : Nat) {ρ : Type} (s : ByteArray) (K : (List Int) × Unit → Option ρ) : Option ρ :=
 (Q1i k ).bind fun t0 => (Ql k s (t0.1.1, ((), (t0.1.2.2.1, ())))).bind fun t1 => (Qc k (t1.1.1, ((), (t1.1.2.2.1, ()))) t1.2.1).bind fun t2 => K (t2.1, ())
def Q1l (k : Nat) (s : ByteArray) : Option Qdy := Q1l.c k s some
def Q1l.tin : List Ty := [.str]
def Q1l.tout : List Ty := [Qdx]
def Q1l.sem (k : Nat) : Qr := QX Q1l.tin Q1l.tout fun x => Q1l k x.1
noncomputable def Q1l.ctx (k : Nat) : Ctx := ⟨Tryz.prog, gam [(136, (Q1i.sem k)), (137, (Ql.sem k)), (138, (Qc.sem k))]⟩
theorem Q1l.gok (k : Nat) : ∀ f, Qm Tryz.prog f ((Q1l.ctx k).Γ f) := (Q8 (Q1i.sem_ok k) (Q8 (Ql.sem_ok k) (Q8 (Qc.sem_ok k) QK)))
def Q1l.ann (k : Nat) : Ann := .nil
theorem Q1l.body (k : Nat) : Q0Y (Q1l.ctx k) Tryz.f118 (Func.code Tryz.f118) (Q1l.ann k) Q1l.tin Q1l.tout (fun x K => Q1l.c k x.1 K) := by
 intro ρ x K; kernel_rfl
theorem Q1l.sem_ok (k : Nat) : Qm Tryz.prog 118 (Q1l.sem k) :=
 QD (C := Q1l.ctx k) (Q1l.gok k) Tryz.mix (c := Func.code Tryz.f118) (ann := Q1l.ann k) (tin := Q1l.tin) (tout := Q1l.tout) (fun x K => Q1l.c k x.1 K) Tryz.func118 (by kernel_rfl) (by kernel_rfl) Q1.nil (Q1l.body k)
def Q0Z.c (k : Nat) {ρ : Type} (s : ByteArray) (K : (List Int) × Unit → Option ρ) : Option ρ :=
 (Q1l k s).bind fun t0 => let v1 : ByteArray := (bytesOf (List.take 32 (List.drop 0 t0.1)))
 (Q1l k v1).bind fun t2 => K (t2.1, ())
def Q0Z (k : Nat) (s : ByteArray) : Option Qdy := Q0Z.c k s some
def Q0Z.tin : List Ty := [.str]
def Q0Z.tout : List Ty := [Qdx]
def Q0Z.sem (k : Nat) : Qr := QX Q0Z.tin Q0Z.tout fun x => Q0Z k x.1
noncomputable def Q0Z.ctx (k : Nat) : Ctx := ⟨Tryz.prog, gam [(118, (Q1l.sem k))]⟩
theorem Q0Z.gok (k : Nat) : ∀ f, Qm Tryz.prog f ((Q0Z.ctx k).Γ f) := (Q8 (Q1l.sem_ok k) QK)
def Q0Z.ann (k : Nat) : Ann := .nil
theorem Q0Z.body (k : Nat) : Q0Y (Q0Z.ctx k) Tryz.f91 (Func.code Tryz.f91) (Q0Z.ann k) Q0Z.tin Q0Z.tout (fun x K => Q0Z.c k x.1 K) := by
 intro ρ x K; kernel_rfl
theorem Q0Z.sem_ok (k : Nat) : Qm Tryz.prog 91 (Q0Z.sem k) :=
 QD (C := Q0Z.ctx k) (Q0Z.gok k) Tryz.mix (c := Func.code Tryz.f91) (ann := Q0Z.ann k) (tin := Q0Z.tin) (tout := Q0Z.tout) (fun x K => Q0Z.c k x.1 K) Tryz.func91 (by kernel_rfl) (by kernel_rfl) Q1.nil (Q0Z.body k)
def Q0O.c (k : Nat) {ρ : Type} (h : (Int × ((List Int) × ((List Int) × (Int × (Int × (Int × Unit))))))) (K : (List Int) × Unit → Option ρ) : Option ρ :=
 (Q0X k (h.1, (h.2.1, (h.2.2.1, (h.2.2.2.1, (h.2.2.2.2.1, (h.2.2.2.2.2.1, ()))))))).bind fun t0 => (Q0Z k t0.1).bind fun t1 => K (t1.1, ())
def Q0O (k : Nat) (h : (Int × ((List Int) × ((List Int) × (Int × (Int × (Int × Unit))))))) : Option Qdy := Q0O.c k h some
def Q0O.tin : List Ty := [(.pair (.int .u32) (.pair Qdx (.pair Qdx (.pair (.int .u32) (.pair (.int .u32) (.pair (.int .u32) .unit))))))]
def Q0O.tout : List Ty := [Qdx]
def Q0O.sem (k : Nat) : Qr := QX Q0O.tin Q0O.tout fun x => Q0O k x.1
noncomputable def Q0O.ctx (k : Nat) : Ctx := ⟨Tryz.prog, gam [(35, (Q0X.sem k)), (91, (Q0Z.sem k))]⟩
theorem Q0O.gok (k : Nat) : ∀ f, Qm Tryz.prog f ((Q0O.ctx k).Γ f) := (Q8 (Q0X.sem_ok k) (Q8 (Q0Z.sem_ok k) QK))
def Q0O.ann (k : Nat) : Ann := .nil
theorem Q0O.body (k : Nat) : Q0Y (Q0O.ctx k) Tryz.f46 (Func.code Tryz.f46) (Q0O.ann k) Q0O.tin Q0O.tout (fun x K => Q0O.c k x.1 K) := by
 intro ρ x K; kernel_rfl
theorem Q0O.sem_ok (k : Nat) : Qm Tryz.prog 46 (Q0O.sem k) :=
 QD (C := Q0O.ctx k) (Q0O.gok k) Tryz.mix (c := Func.code Tryz.f46) (ann := Q0O.ann k) (tin := Q0O.tin) (tout := Q0O.tout) (fun x K => Q0O.c k x.1 K) Tryz.func46 (by kernel_rfl) (by kernel_rfl) Q1.nil (Q0O.body k)
end Go.Am
