/- A part of a proof: a machine of abstract values that tells what functions of the program compute, and the plain facts on them. -/
import Derived.Test.YtifpmlmgindkaaaGreatAm9
import Derived.KernelRfl
set_option linter.unusedVariables false
set_option linter.unusedSimpArgs false
set_option linter.unnecessarySimpa false
set_option linter.unusedSectionVars false
namespace Go.Am
abbrev QdQ : Type := ((List Int) × Unit)
abbrev QdP : Ty := (.arr 32 (.int .u8))
abbrev QdO : Ty := (.arr 64 (.int .u8))
abbrev QdN : Ty := (.arr 8 (.int .u32))
abbrev QdM : Ty := (.arr 64 (.int .u32))
abbrev QdL : Ty := (.pair (.int .u64) .unit)
abbrev QdK : Type := ((List Int) × (Unit × (Int × Unit)))
abbrev QdJ : Type := ((List Int) × (List Int) × (List Int) × Unit)
abbrev QdI : Type := ( QdK  × (List Int) × Unit)
end Go.Am
namespace Go.Am
open Go Go.Proofs
set_option maxRecDepth 100000
def Q0N.c (k : Nat) {ρ : Type}  (K : (List Int) × Unit → Option ρ) : Option ρ :=
 let v0 : (List Int) := (List.set (List.set (List.set (List.set (List.set (List.set (List.set (List.set (List.replicate 8 (0 : Int)) 0 (1779033703 : Int)) 1 (3144134277 : Int)) 2 (1013904242 : Int)) 3 (2773480762 : Int)) 4 (1359893119 : Int)) 5 (2600822924 : Int)) 6 (528734635 : Int)) 7 (1541459225 : Int))
 K (v0, ())
def Q0N (k : Nat)  : Option QdQ := Q0N.c k  some
def Q0N.tin : List Ty := []
def Q0N.tout : List Ty := [QdN]
def Q0N.sem (k : Nat) : Qt := QL Q0N.tin Q0N.tout fun x => Q0N k 
noncomputable def Q0N.ctx (k : Nat) : Ctx := ⟨Tryz.prog, gam []⟩
theorem Q0N.gok (k : Nat) : ∀ f, Qo Tryz.prog f ((Q0N.ctx k).Γ f) := QU
def Q0N.ann (k : Nat) : Ann := .nil
theorem Q0N.body (k : Nat) : Q0C (Q0N.ctx k) Tryz.f150 (Func.code Tryz.f150) (Q0N.ann k) Q0N.tin Q0N.tout (fun x K => Q0N.c k  K) := by
 intro ρ x K; kernel_rfl
theorem Q0N.sem_ok (k : Nat) : Qo Tryz.prog 150 (Q0N.sem k) :=
 Qw (C := Q0N.ctx k) (Q0N.gok k) Tryz.mix (c := Func.code Tryz.f150) (ann := Q0N.ann k) (tin := Q0N.tin) (tout := Q0N.tout) (fun x K => Q0N.c k  K) Tryz.func150 (by kernel_rfl) (by kernel_rfl) Q3.nil (Q0N.body k)
abbrev Q10.τ : Type := (QdK × Unit)
def Q10.c (k : Nat) {ρ : Type}  (K : Q10.τ → Option ρ) : Option ρ :=
 (Q0N k ).bind fun t0 => K ((t0.1, ((), ((0 : Int), ()))), ())
def Q10 (k : Nat)  : Option Q10.τ := Q10.c k  some
def Q10.T : Q1d := ⟨[], [], 0⟩
def Q10.os : List Out := [⟨.ret, [.auto 0], ⟨[.ptr 0 []], [.pair (.dat QdN) (.pair (.nils) (.dat QdL))]⟩⟩]
def Q10.sem (k : Nat) : Qt := Q1o Q10.T Q10.os fun x => Q10 k 
noncomputable def Q10.ctx (k : Nat) : Ctx := ⟨Tryz.prog, gam [(150, (Q0N.sem k))]⟩
theorem Q10.gok (k : Nat) : ∀ f, Qo Tryz.prog f ((Q10.ctx k).Γ f) := (Qd (Q0N.sem_ok k) QU)
def Q10.ann (k : Nat) : Ann := .nil
theorem Q10.body (k : Nat) : Q1y (Q10.ctx k) Tryz.f136 (Func.code Tryz.f136) (Q10.ann k) Q10.T Q10.os (fun x K => Q10.c k  K) := by
 intro ρ x K; kernel_rfl
theorem Q10.sem_ok (k : Nat) : Qo Tryz.prog 136 (Q10.sem k) :=
 Q0Y (C := Q10.ctx k) (Q10.gok k) Tryz.mix (c := Func.code Tryz.f136) (ann := Q10.ann k) (T := Q10.T) (os := Q10.os) (fun x K => Q10.c k  K) Tryz.func136 (by kernel_rfl) (by kernel_rfl) Q3.nil (Q10.body k) (by kernel_rfl) (by kernel_rfl) (by kernel_rfl)
def Qx.c (k : Nat) {ρ : Type} (x_0 : Int) (k_1 : Int) (K : Int × Unit → Option ρ) : Option ρ :=
 let v0 : Int := (Q0U BinOp.and IntKind.u64 (IntKind.wrap IntKind.u64 k_1) (31 : Int))
 bif (decide ((0 : Int) ≤ v0)) then (let v1 : Int := (IntKind.wrap IntKind.u64 ((32 : Int) - v0))
 bif (decide ((0 : Int) ≤ v1)) then (let v2 : Int := (Q0U BinOp.or IntKind.u32 (Q2Y IntKind.u32 x_0 v0) (Q22 IntKind.u32 x_0 v1))
 K (v2, ())) else (none)) else (none)
def Qx (k : Nat) (x_0 : Int) (k_1 : Int) : Option (Int × Unit) := Qx.c k x_0 k_1 some
def Qx.tin : List Ty := [(.int .u32), (.int .i64)]
def Qx.tout : List Ty := [(.int .u32)]
def Qx.sem (k : Nat) : Qt := QL Qx.tin Qx.tout fun x => Qx k x.1 x.2.1
noncomputable def Qx.ctx (k : Nat) : Ctx := ⟨Tryz.prog, gam []⟩
theorem Qx.gok (k : Nat) : ∀ f, Qo Tryz.prog f ((Qx.ctx k).Γ f) := QU
def Qx.ann (k : Nat) : Ann := .nil
theorem Qx.body (k : Nat) : Q0C (Qx.ctx k) Tryz.f172 (Func.code Tryz.f172) (Qx.ann k) Qx.tin Qx.tout (fun x K => Qx.c k x.1 x.2.1 K) := by
 intro ρ x K; kernel_rfl
theorem Qx.sem_ok (k : Nat) : Qo Tryz.prog 172 (Qx.sem k) :=
 Qw (C := Qx.ctx k) (Qx.gok k) Tryz.mix (c := Func.code Tryz.f172) (ann := Qx.ann k) (tin := Qx.tin) (tout := Qx.tout) (fun x K => Qx.c k x.1 x.2.1 K) Tryz.func172 (by kernel_rfl) (by kernel_rfl) Q3.nil (Qx.body k)
def Q0s.c (k : Nat) {ρ : Type} (x_0 : Int) (n : Int) (K : Int × Unit → Option ρ) : Option ρ :=
 let v0 : Int := (IntKind.wrap IntKind.i64 ((0 : Int) - n))
 (Qx k x_0 v0).bind fun t1 => K (t1.1, ())
def Q0s (k : Nat) (x_0 : Int) (n : Int) : Option (Int × Unit) := Q0s.c k x_0 n some
def Q0s.tin : List Ty := [(.int .u32), (.int .i64)]
def Q0s.tout : List Ty := [(.int .u32)]
def Q0s.sem (k : Nat) : Qt := QL Q0s.tin Q0s.tout fun x => Q0s k x.1 x.2.1
noncomputable def Q0s.ctx (k : Nat) : Ctx := ⟨Tryz.prog, gam [(172, (Qx.sem k))]⟩
theorem Q0s.gok (k : Nat) : ∀ f, Qo Tryz.prog f ((Q0s.ctx k).Γ f) := (Qd (Qx.sem_ok k) QU)
def Q0s.ann (k : Nat) : Ann := .nil
theorem Q0s.body (k : Nat) : Q0C (Q0s.ctx k) Tryz.f165 (Func.code Tryz.f165) (Q0s.ann k) Q0s.tin Q0s.tout (fun x K => Q0s.c k x.1 x.2.1 K) := by
 intro ρ x K; kernel_rfl
theorem Q0s.sem_ok (k : Nat) : Qo Tryz.prog 165 (Q0s.sem k) :=
 Qw (C := Q0s.ctx k) (Q0s.gok k) Tryz.mix (c := Func.code Tryz.f165) (ann := Q0s.ann k) (tin := Q0s.tin) (tout := Q0s.tout) (fun x K => Q0s.c k x.1 x.2.1 K) Tryz.func165 (by kernel_rfl) (by kernel_rfl) Q3.nil (Q0s.body k)
abbrev Qk.l1.σ : Type := Int × Int × (Nat × Nat) × Int × Int × (List Int) × (List Int) × (List Int) × Unit
abbrev Qk.l1.τ : Type := (Int × (List Int) × (List Int) × (List Int) × Unit)
def Qk.l1.r (k : Nat) {ρ : Type} (x : Qk.l1.σ) (kn : Qk.l1.σ → Option ρ) (ke : Qk.l1.τ → Option ρ) : Option ρ :=
 bif (decide (x.2.2.2.2.1 < x.2.2.2.1)) then (bif (decide (((0 : Int) ≤ x.2.2.2.2.1) ∧ (x.2.2.2.2.1 < ((x.2.2.1.2 : Nat) : Int)))) then (let v4 : Int := (List.getD x.2.2.2.2.2.1 (x.2.2.1.1 + (Int.toNat x.2.2.2.2.1)) (0 : Int))
 bif (decide (((0 : Int) ≤ x.1) ∧ (x.1 < ((64 : Nat) : Int)))) then (let v5 : Int := (List.getD x.2.2.2.2.2.2.2.1 (Int.toNat x.1) (0 : Int))
 let v6 : Int := (Q2Y IntKind.u32 v5 (8 : Int))
 bif (decide (((0 : Int) ≤ x.1) ∧ (x.1 < ((64 : Nat) : Int)))) then (let v7 : Int := (IntKind.wrap IntKind.i64 (x.2.2.2.2.1 + (1 : Int)))
 kn (x.1, (x.2.1, ((x.2.2.1.1, x.2.2.1.2), (x.2.2.2.1, (v7, (x.2.2.2.2.2.1, (x.2.2.2.2.2.2.1, ((List.set x.2.2.2.2.2.2.2.1 (Int.toNat x.1) (Q0U BinOp.or IntKind.u32 v6 (IntKind.wrap IntKind.u32 v4))), ()))))))))) else (none)) else (none)) else (none)) else (ke (x.2.1, (x.2.2.2.2.2.1, (x.2.2.2.2.2.2.1, (x.2.2.2.2.2.2.2.1, ())))))
def Qk.l1 (k : Nat) : Nat → Qk.l1.σ → Option Qk.l1.τ := Q0T (Qk.l1.r k)
def Qk.l1.T : StT := ⟨.ptr 0 [] :: us 1 ++ .ptr 1 [] :: .ptr 2 [] :: .dat (.int .i64) :: us 7 ++ .dat (.int .i64) :: us 9 ++ .slr 0 [] :: .dat (.int .i64) :: .dat (.int .i64) :: us 58, [.dat QdO, .dat QdM, .dat QdM]⟩
def Qk.l1.os : List Out := [⟨(.exit 2), [.mask [0, 2, 3, 12], .auto 1], ⟨.ptr 0 [] :: us 1 ++ .ptr 1 [] :: .ptr 2 [] :: us 8 ++ .dat (.int .i64) :: us 70, [.dat QdO, .dat QdM, .dat QdM]⟩⟩]
abbrev Qk.l0.σ : Type := Int × (List Int) × (List Int) × (List Int) × Unit
abbrev Qk.l0.τ : Type := QdJ 
def Qk.l0.r (k : Nat) {ρ : Type} (x : Qk.l0.σ) (kn : Qk.l0.σ → Option ρ) (ke : Qk.l0.τ → Option ρ) : Option ρ :=
 bif (decide (x.1 < (16 : Int))) then (let v0 : Int := (IntKind.wrap IntKind.i64 ((4 : Int) * x.1))
 let v1 : Int := (IntKind.wrap IntKind.i64 (x.1 + (1 : Int)))
 let v2 : Int := (IntKind.wrap IntKind.i64 ((4 : Int) * v1))
 bif (decide (((0 : Int) ≤ v0) ∧ ((v0 ≤ v2) ∧ (v2 ≤ ((64 : Nat) : Int))))) then (let v3 : Int := (((Int.toNat (v2 - v0)) : Nat) : Int)
 (Qk.l1 k k (x.1, (x.1, (((Int.toNat v0), (Int.toNat (v2 - v0))), (v3, ((0 : Int), (x.2.1, (x.2.2.1, (x.2.2.2.1, ()))))))))).bind fun t8 => let v9 : Int := (IntKind.wrap IntKind.i64 (t8.1 + (1 : Int)))
 kn (v9, (t8.2.1, (t8.2.2.1, (t8.2.2.2.1, ()))))) else (none)) else (ke (x.2.1, (x.2.2.1, (x.2.2.2.1, ()))))
def Qk.l0 (k : Nat) : Nat → Qk.l0.σ → Option Qk.l0.τ := Q0T (Qk.l0.r k)
def Qk.l0.T : StT := ⟨.ptr 0 [] :: us 1 ++ .ptr 1 [] :: .ptr 2 [] :: us 8 ++ .dat (.int .i64) :: us 70, [.dat QdO, .dat QdM, .dat QdM]⟩
def Qk.l0.os : List Out := [⟨(.exit 0), [.mask [2, 3], .auto 1], ⟨us 2 ++ .ptr 1 [] :: .ptr 2 [] :: us 79, [.dat QdO, .dat QdM, .dat QdM]⟩⟩]
abbrev Qk.l2.σ : Type := Int × (List Int) × (List Int) × (List Int) × Unit
abbrev Qk.l2.τ : Type := QdJ 
def Qk.l2.r (k : Nat) {ρ : Type} (x : Qk.l2.σ) (kn : Qk.l2.σ → Option ρ) (ke : Qk.l2.τ → Option ρ) : Option ρ :=
 bif (decide (x.1 < (64 : Int))) then (let v11 : Int := (IntKind.wrap IntKind.i64 (x.1 - (2 : Int)))
 bif (decide (((0 : Int) ≤ v11) ∧ (v11 < ((64 : Nat) : Int)))) then (let v12 : Int := (List.getD x.2.2.2.1 (Int.toNat v11) (0 : Int))
 let v13 : Int := (IntKind.wrap IntKind.i64 (x.1 - (15 : Int)))
 bif (decide (((0 : Int) ≤ v13) ∧ (v13 < ((64 : Nat) : Int)))) then (let v14 : Int := (List.getD x.2.2.2.1 (Int.toNat v13) (0 : Int))
 (Q0s k v12 (17 : Int)).bind fun t15 => (Q0s k v12 (19 : Int)).bind fun t16 => let v17 : Int := (Q0U BinOp.xor IntKind.u32 t15.1 t16.1)
 let v18 : Int := (Q22 IntKind.u32 v12 (10 : Int))
 (Q0s k v14 (7 : Int)).bind fun t19 => (Q0s k v14 (18 : Int)).bind fun t20 => let v21 : Int := (Q0U BinOp.xor IntKind.u32 t19.1 t20.1)
 let v22 : Int := (Q22 IntKind.u32 v14 (3 : Int))
 let v23 : Int := (IntKind.wrap IntKind.i64 (x.1 - (7 : Int)))
 bif (decide (((0 : Int) ≤ v23) ∧ (v23 < ((64 : Nat) : Int)))) then (let v24 : Int := (List.getD x.2.2.2.1 (Int.toNat v23) (0 : Int))
 let v25 : Int := (IntKind.wrap IntKind.u32 ((Q0U BinOp.xor IntKind.u32 v17 v18) + v24))
 let v26 : Int := (IntKind.wrap IntKind.u32 (v25 + (Q0U BinOp.xor IntKind.u32 v21 v22)))
 let v27 : Int := (IntKind.wrap IntKind.i64 (x.1 - (16 : Int)))
 bif (decide (((0 : Int) ≤ v27) ∧ (v27 < ((64 : Nat) : Int)))) then (let v28 : Int := (List.getD x.2.2.2.1 (Int.toNat v27) (0 : Int))
 let v29 : Int := (IntKind.wrap IntKind.u32 (v26 + v28))
 bif (decide (((0 : Int) ≤ x.1) ∧ (x.1 < ((64 : Nat) : Int)))) then (let v30 : Int := (IntKind.wrap IntKind.i64 (x.1 + (1 : Int)))
 kn (v30, (x.2.1, (x.2.2.1, ((List.set x.2.2.2.1 (Int.toNat x.1) v29), ()))))) else (none)) else (none)) else (none)) else (none)) else (none)) else (ke (x.2.1, (x.2.2.1, (x.2.2.2.1, ()))))
def Qk.l2 (k : Nat) : Nat → Qk.l2.σ → Option Qk.l2.τ := Q0T (Qk.l2.r k)
def Qk.l2.T : StT := ⟨us 2 ++ .ptr 1 [] :: .ptr 2 [] :: us 3 ++ .dat (.int .i64) :: us 75, [.dat QdO, .dat QdM, .dat QdM]⟩
def Qk.l2.os : List Out := [⟨(.exit 4), [.mask [2, 3], .auto 1], ⟨us 2 ++ .ptr 1 [] :: .ptr 2 [] :: us 79, [.dat QdO, .dat QdM, .dat QdM]⟩⟩]
abbrev Qk.τ : Type := ((List Int) × (List Int) × Unit)
def Qk.c (k : Nat) {ρ : Type} (b0 : (List Int)) (K : Qk.τ → Option ρ) : Option ρ :=
 (Qk.l0 k k ((0 : Int), (b0, ((List.replicate 64 (0 : Int)), ((List.replicate 64 (0 : Int)), ()))))).bind fun t10 => (Qk.l2 k k ((16 : Int), (t10.1, (t10.2.1, (t10.2.2.1, ()))))).bind fun t31 => let v32 : (List Int) := t31.2.2.1
 K (v32, (t31.1, ()))
def Qk (k : Nat) (b0 : (List Int)) : Option Qk.τ := Qk.c k b0 some
def Qk.T : Q1d := ⟨[.ptr 0 []], [.dat QdO], 1⟩
def Qk.os : List Out := [⟨.ret, [.freeze (.slot 0), .auto 1], ⟨[.dat QdM], [.dat QdO]⟩⟩]
def Qk.sem (k : Nat) : Qt := Q1o Qk.T Qk.os fun x => Qk k x.1
noncomputable def Qk.ctx (k : Nat) : Ctx := ⟨Tryz.prog, gam [(165, (Q0s.sem k))]⟩
theorem Qk.gok (k : Nat) : ∀ f, Qo Tryz.prog f ((Qk.ctx k).Γ f) := (Qd (Q0s.sem_ok k) QU)
theorem Qk.l1.round (k : Nat) : Q0V (Qk.ctx k) (Q0n (Func.code Tryz.f163) [1, 1, 0, 1, 0, 0, 1, 1, 0, 0, 1, 1, 0, 0]) (.nil) Qk.l1.T [.mask [0, 2, 3, 4, 12, 22, 23, 24], .auto 1] Qk.l1.os (Qk.l1.r k) := by
 intro ρ x kn ke; kernel_rfl
theorem Qk.l1.ok (k : Nat) : StOK 1 Tryz.prog (.loop (Q0n (Func.code Tryz.f163) [1, 1, 0, 1, 0, 0, 1, 1, 0, 0, 1, 1, 0, 0])) (QK Qk.l1.T Qk.l1.os (Qk.l1 k k)) :=
 Q0X (C := Qk.ctx k) (Qk.gok k) Tryz.mix Q3.nil (by kernel_rfl) (by kernel_rfl) (by kernel_rfl) (Qk.l1.round k) k
theorem Qk.l2.round (k : Nat) : Q0V (Qk.ctx k) (Q0n (Func.code Tryz.f163) [1, 1, 1, 0, 1, 0, 0]) (.nil) Qk.l2.T [.mask [2, 3, 7], .auto 1] Qk.l2.os (Qk.l2.r k) := by
 intro ρ x kn ke; kernel_rfl
theorem Qk.l2.ok (k : Nat) : StOK 1 Tryz.prog (.loop (Q0n (Func.code Tryz.f163) [1, 1, 1, 0, 1, 0, 0])) (QK Qk.l2.T Qk.l2.os (Qk.l2 k k)) :=
 Q0X (C := Qk.ctx k) (Qk.gok k) Tryz.mix Q3.nil (by kernel_rfl) (by kernel_rfl) (by kernel_rfl) (Qk.l2.round k) k
theorem Qk.l0.round (k : Nat) : Q0V (Qk.ctx k) (Q0n (Func.code Tryz.f163) [1, 1, 0, 1, 0, 0]) (.node [] none (.nil) (.node [] none (.nil) (.node [] none (.node [] none (.node [] none (.nil) (.node [] none (.nil) (.node [] none (.node [.mask [0, 2, 3, 4, 12, 22, 23, 24], .auto 1] (some (QK Qk.l1.T Qk.l1.os (Qk.l1 k k))) .nil .nil) (.nil)))) (.nil)) (.nil)))) Qk.l0.T [.mask [0, 2, 3, 12], .auto 1] Qk.l0.os (Qk.l0.r k) := by
 intro ρ x kn ke; kernel_rfl
theorem Qk.l0.ok (k : Nat) : StOK 1 Tryz.prog (.loop (Q0n (Func.code Tryz.f163) [1, 1, 0, 1, 0, 0])) (QK Qk.l0.T Qk.l0.os (Qk.l0 k k)) :=
 Q0X (C := Qk.ctx k) (Qk.gok k) Tryz.mix (Q3.seq Q3.nil (Q3.seq Q3.nil (Q3.seq (Q3.block (Q3.seq Q3.nil (Q3.seq Q3.nil (Q3.block (Q3.loop (by kernel_rfl) (Qk.l1.ok k)))))) Q3.nil))) (by kernel_rfl) (by kernel_rfl) (by kernel_rfl) (Qk.l0.round k) k
def Qk.ann (k : Nat) : Ann := .node [] none (.nil) (.node [] none (.nil) (.node [] none (.node [] none (.nil) (.node [] none (.node [.mask [0, 2, 3, 12], .auto 1] (some (QK Qk.l0.T Qk.l0.os (Qk.l0 k k))) .nil .nil) (.nil))) (.node [] none (.node [] none (.nil) (.node [] none (.node [.mask [2, 3, 7], .auto 1] (some (QK Qk.l2.T Qk.l2.os (Qk.l2 k k))) .nil .nil) (.nil))) (.nil))))
theorem Qk.body (k : Nat) : Q1y (Qk.ctx k) Tryz.f163 (Func.code Tryz.f163) (Qk.ann k) Qk.T Qk.os (fun x K => Qk.c k x.1 K) := by
 intro ρ x K; kernel_rfl
theorem Qk.sem_ok (k : Nat) : Qo Tryz.prog 163 (Qk.sem k) :=
 Q0Y (C := Qk.ctx k) (Qk.gok k) Tryz.mix (c := Func.code Tryz.f163) (ann := Qk.ann k) (T := Qk.T) (os := Qk.os) (fun x K => Qk.c k x.1 K) Tryz.func163 (by kernel_rfl) (by kernel_rfl) (Q3.seq Q3.nil (Q3.seq Q3.nil (Q3.seq (Q3.seq Q3.nil (Q3.block (Q3.loop (by kernel_rfl) (Qk.l0.ok k)))) (Q3.seq (Q3.seq Q3.nil (Q3.block (Q3.loop (by kernel_rfl) (Qk.l2.ok k)))) Q3.nil)))) (Qk.body k) (by kernel_rfl) (by kernel_rfl) (by kernel_rfl)
abbrev Q0h.τ : Type := QdQ 
def Q0h.c (k : Nat) {ρ : Type}  (K : Q0h.τ → Option ρ) : Option ρ :=
 let v0 : (List Int) := (List.set (List.set (List.set (List.set (List.set (List.set (List.set (List.set (List.set (List.set (List.set (List.set (List.set (List.set (List.set (List.set (List.set (List.set (List.set (List.set (List.set (List.set (List.set (List.set (List.set (List.set (List.set (List.set (List.set (List.set (List.set (List.set (List.set (List.set (List.set (List.set (List.set (List.set (List.set (List.set (List.set (List.set (List.set (List.set (List.set (List.set (List.set (List.set (List.set (List.set (List.set (List.set (List.set (List.set (List.set (List.set (List.set (List.set (List.set (List.set (List.set (List.set (List.set (List.set (List.replicate 64 (0 : Int)) 0 (1116352408 : Int)) 1 (1899447441 : Int)) 2 (3049323471 : Int)) 3 (3921009573 : Int)) 4 (961987163 : Int)) 5 (1508970993 : Int)) 6 (2453635748 : Int)) 7 (2870763221 : Int)) 8 (3624381080 : Int)) 9 (310598401 : Int)) 10 (607225278 : Int)) 11 (1426881987 : Int)) 12 (1925078388 : Int)) 13 (2162078206 : Int)) 14 (2614888103 : Int)) 15 (3248222580 : Int)) 16 (3835390401 : Int)) 17 (4022224774 : Int)) 18 (264347078 : Int)) 19 (604807628 : Int)) 20 (770255983 : Int)) 21 (1249150122 : Int)) 22 (1555081692 : Int)) 23 (1996064986 : Int)) 24 (2554220882 : Int)) 25 (2821834349 : Int)) 26 (2952996808 : Int)) 27 (3210313671 : Int)) 28 (3336571891 : Int)) 29 (3584528711 : Int)) 30 (113926993 : Int)) 31 (338241895 : Int)) 32 (666307205 : Int)) 33 (773529912 : Int)) 34 (1294757372 : Int)) 35 (1396182291 : Int)) 36 (1695183700 : Int)) 37 (1986661051 : Int)) 38 (2177026350 : Int)) 39 (2456956037 : Int)) 40 (2730485921 : Int)) 41 (2820302411 : Int)) 42 (3259730800 : Int)) 43 (3345764771 : Int)) 44 (3516065817 : Int)) 45 (3600352804 : Int)) 46 (4094571909 : Int)) 47 (275423344 : Int)) 48 (430227734 : Int)) 49 (506948616 : Int)) 50 (659060556 : Int)) 51 (883997877 : Int)) 52 (958139571 : Int)) 53 (1322822218 : Int)) 54 (1537002063 : Int)) 55 (1747873779 : Int)) 56 (1955562222 : Int)) 57 (2024104815 : Int)) 58 (2227730452 : Int)) 59 (2361852424 : Int)) 60 (2428436474 : Int)) 61 (2756734187 : Int)) 62 (3204031479 : Int)) 63 (3329325298 : Int))
 K (v0, ())
def Q0h (k : Nat)  : Option Q0h.τ := Q0h.c k  some
def Q0h.T : Q1d := ⟨[], [], 0⟩
def Q0h.os : List Out := [⟨.ret, [.auto 0], ⟨[.ptr 0 []], [.dat QdM]⟩⟩]
def Q0h.sem (k : Nat) : Qt := Q1o Q0h.T Q0h.os fun x => Q0h k 
noncomputable def Q0h.ctx (k : Nat) : Ctx := ⟨Tryz.prog, gam []⟩
theorem Q0h.gok (k : Nat) : ∀ f, Qo Tryz.prog f ((Q0h.ctx k).Γ f) := QU
def Q0h.ann (k : Nat) : Ann := .nil
theorem Q0h.body (k : Nat) : Q1y (Q0h.ctx k) Tryz.f164 (Func.code Tryz.f164) (Q0h.ann k) Q0h.T Q0h.os (fun x K => Q0h.c k  K) := by
 intro ρ x K; kernel_rfl
theorem Q0h.sem_ok (k : Nat) : Qo Tryz.prog 164 (Q0h.sem k) :=
 Q0Y (C := Q0h.ctx k) (Q0h.gok k) Tryz.mix (c := Func.code Tryz.f164) (ann := Q0h.ann k) (T := Q0h.T) (os := Q0h.os) (fun x K => Q0h.c k  K) Tryz.func164 (by kernel_rfl) (by kernel_rfl) Q3.nil (Q0h.body k) (by kernel_rfl) (by kernel_rfl) (by kernel_rfl)
abbrev QI.l0.σ : Type := Int × (List Int) × (List Int) × (List Int) × (List Int) × (List Int) × Unit
abbrev QI.l0.τ : Type := QdJ 
def QI.l0.r (k : Nat) {ρ : Type} (x : QI.l0.σ) (kn : QI.l0.σ → Option ρ) (ke : QI.l0.τ → Option ρ) : Option ρ :=
 bif (decide (x.1 < (64 : Int))) then (let v2 : Int := (List.getD x.2.2.2.2.2.1 0 (0 : Int))
 let v3 : Int := (List.getD x.2.2.2.2.2.1 4 (0 : Int))
 (Q0s k v3 (6 : Int)).bind fun t4 => (Q0s k v3 (11 : Int)).bind fun t5 => let v6 : Int := (Q0U BinOp.xor IntKind.u32 t4.1 t5.1)
 (Q0s k v3 (25 : Int)).bind fun t7 => let v8 : Int := (Q0U BinOp.xor IntKind.u32 v6 t7.1)
 (Q0s k v2 (2 : Int)).bind fun t9 => (Q0s k v2 (13 : Int)).bind fun t10 => let v11 : Int := (Q0U BinOp.xor IntKind.u32 t9.1 t10.1)
 (Q0s k v2 (22 : Int)).bind fun t12 => let v13 : Int := (Q0U BinOp.xor IntKind.u32 v11 t12.1)
 let v14 : Int := (List.getD x.2.2.2.2.2.1 5 (0 : Int))
 let v15 : Int := (List.getD x.2.2.2.2.2.1 6 (0 : Int))
 let v16 : Int := (Q0U BinOp.xor IntKind.u32 (Q0U BinOp.and IntKind.u32 v3 v14) (Q0U BinOp.and IntKind.u32 (notI IntKind.u32 v3) v15))
 let v17 : Int := (List.getD x.2.2.2.2.2.1 1 (0 : Int))
 let v18 : Int := (List.getD x.2.2.2.2.2.1 2 (0 : Int))
 let v19 : Int := (Q0U BinOp.xor IntKind.u32 (Q0U BinOp.and IntKind.u32 v2 v17) (Q0U BinOp.and IntKind.u32 v2 v18))
 let v20 : Int := (List.getD x.2.2.2.2.2.1 1 (0 : Int))
 let v21 : Int := (List.getD x.2.2.2.2.2.1 2 (0 : Int))
 let v22 : Int := (Q0U BinOp.xor IntKind.u32 v19 (Q0U BinOp.and IntKind.u32 v20 v21))
 let v23 : Int := (List.getD x.2.2.2.2.2.1 7 (0 : Int))
 let v24 : Int := (IntKind.wrap IntKind.u32 (v23 + v8))
 let v25 : Int := (IntKind.wrap IntKind.u32 (v24 + v16))
 bif (decide (((0 : Int) ≤ x.1) ∧ (x.1 < ((64 : Nat) : Int)))) then (let v26 : Int := (List.getD x.2.2.2.2.1 (Int.toNat x.1) (0 : Int))
 let v27 : Int := (IntKind.wrap IntKind.u32 (v25 + v26))
 bif (decide (((0 : Int) ≤ x.1) ∧ (x.1 < ((64 : Nat) : Int)))) then (let v28 : Int := (List.getD x.2.2.2.1 (Int.toNat x.1) (0 : Int))
 let v29 : Int := (IntKind.wrap IntKind.u32 (v27 + v28))
 let v30 : Int := (IntKind.wrap IntKind.u32 (v29 + v13))
 let v31 : Int := (IntKind.wrap IntKind.u32 (v30 + v22))
 let v32 : Int := (List.getD x.2.2.2.2.2.1 0 (0 : Int))
 let v33 : Int := (List.getD x.2.2.2.2.2.1 1 (0 : Int))
 let v34 : Int := (List.getD x.2.2.2.2.2.1 2 (0 : Int))
 let v35 : Int := (List.getD x.2.2.2.2.2.1 3 (0 : Int))
 let v36 : Int := (IntKind.wrap IntKind.u32 (v35 + v29))
 let v37 : Int := (List.getD x.2.2.2.2.2.1 4 (0 : Int))
 let v38 : Int := (List.getD x.2.2.2.2.2.1 5 (0 : Int))
 let v39 : Int := (List.getD x.2.2.2.2.2.1 6 (0 : Int))
 let v40 : (List Int) := (List.set (List.set (List.set (List.set (List.set (List.set (List.set (List.set (List.replicate 8 (0 : Int)) 0 v31) 1 v32) 2 v33) 3 v34) 4 v36) 5 v37) 6 v38) 7 v39)
 let v41 : Int := (IntKind.wrap IntKind.i64 (x.1 + (1 : Int)))
 kn (v41, (x.2.1, (x.2.2.1, (x.2.2.2.1, (x.2.2.2.2.1, (v40, ()))))))) else (none)) else (none)) else (ke (x.2.1, (x.2.2.1, (x.2.2.2.2.2.1, ()))))
def QI.l0 (k : Nat) : Nat → QI.l0.σ → Option QI.l0.τ := Q0T (QI.l0.r k)
def QI.l0.T : StT := ⟨us 2 ++ .ptr 0 [] :: us 1 ++ .ptr 1 [] :: .ptr 2 [] :: .ptr 3 [] :: .ptr 4 [] :: us 12 ++ .dat (.int .i64) :: us 99, [.dat QdN, .dat QdN, .dat QdM, .dat QdM, .dat QdN]⟩
def QI.l0.os : List Out := [⟨(.exit 0), [.mask [2, 4, 7], .auto 0], ⟨us 2 ++ .ptr 0 [] :: us 1 ++ .ptr 1 [] :: us 2 ++ .ptr 2 [] :: us 112, [.dat QdN, .dat QdN, .dat QdN]⟩⟩]
abbrev QI.l1.σ : Type := Int × (List Int) × (List Int) × (List Int) × Unit
abbrev QI.l1.τ : Type := ((List Int) × (List Int) × Unit)
def QI.l1.r (k : Nat) {ρ : Type} (x : QI.l1.σ) (kn : QI.l1.σ → Option ρ) (ke : QI.l1.τ → Option ρ) : Option ρ :=
 bif (decide (x.1 < (8 : Int))) then (bif (decide (((0 : Int) ≤ x.1) ∧ (x.1 < ((8 : Nat) : Int)))) then (let v43 : Int := (List.getD x.2.2.2.1 (Int.toNat x.1) (0 : Int))
 bif (decide (((0 : Int) ≤ x.1) ∧ (x.1 < ((8 : Nat) : Int)))) then (let v44 : Int := (List.getD x.2.1 (Int.toNat x.1) (0 : Int))
 let v45 : Int := (IntKind.wrap IntKind.u32 (v43 + v44))
 bif (decide (((0 : Int) ≤ x.1) ∧ (x.1 < ((8 : Nat) : Int)))) then (let v46 : Int := (IntKind.wrap IntKind.i64 (x.1 + (1 : Int)))
 kn (v46, (x.2.1, (x.2.2.1, ((List.set x.2.2.2.1 (Int.toNat x.1) v45), ()))))) else (none)) else (none)) else (none)) else (ke (x.2.2.1, (x.2.2.2.1, ())))
def QI.l1 (k : Nat) : Nat → QI.l1.σ → Option QI.l1.τ := Q0T (QI.l1.r k)
def QI.l1.T : StT := ⟨us 2 ++ .ptr 0 [] :: us 1 ++ .ptr 1 [] :: us 2 ++ .ptr 2 [] :: us 99 ++ .dat (.int .i64) :: us 12, [.dat QdN, .dat QdN, .dat QdN]⟩
def QI.l1.os : List Out := [⟨(.exit 2), [.mask [4, 7], .auto 0], ⟨us 4 ++ .ptr 0 [] :: us 2 ++ .ptr 1 [] :: us 112, [.dat QdN, .dat QdN]⟩⟩]
def QI.c (k : Nat) {ρ : Type} (x_0 : (List Int)) (block : (List Int)) (K : (List Int) × Unit → Option ρ) : Option ρ :=
 (Qk k block).bind fun t0 => (Q0h k ).bind fun t1 => (QI.l0 k k ((0 : Int), (x_0, ((List.replicate 8 (0 : Int)), (t0.1, (t1.1, (x_0, ()))))))).bind fun t42 => (QI.l1 k k ((0 : Int), (t42.1, (t42.2.1, (t42.2.2.1, ()))))).bind fun t47 => let v48 : (List Int) := t47.2.1
 K (v48, ())
def QI (k : Nat) (x_0 : (List Int)) (block : (List Int)) : Option QdQ := QI.c k x_0 block some
def QI.tin : List Ty := [QdN, QdO]
def QI.tout : List Ty := [QdN]
def QI.sem (k : Nat) : Qt := QL QI.tin QI.tout fun x => QI k x.1 x.2.1
noncomputable def QI.ctx (k : Nat) : Ctx := ⟨Tryz.prog, gam [(163, (Qk.sem k)), (164, (Q0h.sem k)), (165, (Q0s.sem k))]⟩
theorem QI.gok (k : Nat) : ∀ f, Qo Tryz.prog f ((QI.ctx k).Γ f) := (Qd (Qk.sem_ok k) (Qd (Q0h.sem_ok k) (Qd (Q0s.sem_ok k) QU)))
theorem QI.l1.round (k : Nat) : Q0V (QI.ctx k) (Q0n (Func.code Tryz.f151) [1, 1, 1, 1, 0, 1, 0, 0]) (.nil) QI.l1.T [.mask [2, 4, 7, 107], .auto 0] QI.l1.os (QI.l1.r k) := by
 intro ρ x kn ke; kernel_rfl
theorem QI.l1.ok (k : Nat) : StOK 0 Tryz.prog (.loop (Q0n (Func.code Tryz.f151) [1, 1, 1, 1, 0, 1, 0, 0])) (QK QI.l1.T QI.l1.os (QI.l1 k k)) :=
 Q0X (C := QI.ctx k) (QI.gok k) Tryz.mix Q3.nil (by kernel_rfl) (by kernel_rfl) (by kernel_rfl) (QI.l1.round k) k
theorem QI.l0.round (k : Nat) : Q0V (QI.ctx k) (Q0n (Func.code Tryz.f151) [1, 1, 1, 0, 1, 0, 0]) (.nil) QI.l0.T [.mask [2, 4, 5, 6, 7, 20], .auto 0] QI.l0.os (QI.l0.r k) := by
 intro ρ x kn ke; kernel_rfl
theorem QI.l0.ok (k : Nat) : StOK 0 Tryz.prog (.loop (Q0n (Func.code Tryz.f151) [1, 1, 1, 0, 1, 0, 0])) (QK QI.l0.T QI.l0.os (QI.l0 k k)) :=
 Q0X (C := QI.ctx k) (QI.gok k) Tryz.mix Q3.nil (by kernel_rfl) (by kernel_rfl) (by kernel_rfl) (QI.l0.round k) k
def QI.ann (k : Nat) : Ann := .node [] none (.nil) (.node [] none (.nil) (.node [] none (.nil) (.node [] none (.node [] none (.nil) (.node [] none (.node [.mask [2, 4, 5, 6, 7, 20], .auto 0] (some (QK QI.l0.T QI.l0.os (QI.l0 k k))) .nil .nil) (.nil))) (.node [] none (.node [] none (.nil) (.node [] none (.node [.mask [2, 4, 7, 107], .auto 0] (some (QK QI.l1.T QI.l1.os (QI.l1 k k))) .nil .nil) (.nil))) (.nil)))))
theorem QI.body (k : Nat) : Q0C (QI.ctx k) Tryz.f151 (Func.code Tryz.f151) (QI.ann k) QI.tin QI.tout (fun x K => QI.c k x.1 x.2.1 K) := by
 intro ρ x K; kernel_rfl
theorem QI.sem_ok (k : Nat) : Qo Tryz.prog 151 (QI.sem k) :=
 Qw (C := QI.ctx k) (QI.gok k) Tryz.mix (c := Func.code Tryz.f151) (ann := QI.ann k) (tin := QI.tin) (tout := QI.tout) (fun x K => QI.c k x.1 x.2.1 K) Tryz.func151 (by kernel_rfl) (by kernel_rfl) (Q3.seq Q3.nil (Q3.seq Q3.nil (Q3.seq Q3.nil (Q3.seq (Q3.seq Q3.nil (Q3.block (Q3.loop (by kernel_rfl) (QI.l0.ok k)))) (Q3.seq (Q3.seq Q3.nil (Q3.block (Q3.loop (by kernel_rfl) (QI.l1.ok k)))) Q3.nil))))) (QI.body k)
abbrev Qi.l0.σ : Type := QdK × (List Int) × Unit
abbrev Qi.l0.τ : Type := QdI 
def Qi.l0.r (k : Nat) {ρ : Type} (x : Qi.l0.σ) (kn : Qi.l0.σ → Option ρ) (ke : Qi.l0.τ → Option ρ) : Option ρ :=
 let v2 : Int := (((List.length x.2.1) : Nat) : Int)
 bif (decide (v2 ≥ (64 : Int))) then (let v3 : (List Int) := x.1.1
 bif (decide (64 ≤ (List.length x.2.1))) then (let v4 : (List Int) := (List.take 64 (List.drop 0 x.2.1))
 (QI k v3 v4).bind fun t5 => bif (decide (((0 : Int) ≤ (64 : Int)) ∧ (((64 : Int) ≤ (((List.length x.2.1) : Nat) : Int)) ∧ ((((List.length x.2.1) : Nat) : Int) ≤ (((List.length x.2.1) : Nat) : Int))))) then (kn ((t5.1, ((), (x.1.2.2.1, ()))), ((List.take (Int.toNat ((((List.length x.2.1) : Nat) : Int) - (64 : Int))) (List.drop 64 x.2.1)), ()))) else (none)) else (none)) else (ke ((x.1.1, ((), (x.1.2.2.1, ()))), (x.2.1, ())))
def Qi.l0 (k : Nat) : Nat → Qi.l0.σ → Option Qi.l0.τ := Q0T (Qi.l0.r k)
def Qi.l0.T : StT := ⟨.ptr 0 [] :: us 52, [.pair (.dat QdN) (.pair (.vsl 1) (.dat QdL)), .vec (.int .u8)]⟩
def Qi.l0.os : List Out := [⟨(.exit 0), [.mask [], .auto 1], ⟨us 53, [.pair (.dat QdN) (.pair (.vsl 1) (.dat QdL)), .vec (.int .u8)]⟩⟩]
abbrev Qi.τ : Type := QdI 
def Qi.c (k : Nat) {ρ : Type} (s : ByteArray) (b0 : QdK) (K : Qi.τ → Option ρ) : Option ρ :=
 let v0 : Int := b0.2.2.1
 let v1 : Int := (IntKind.wrap IntKind.u64 (v0 + (IntKind.wrap IntKind.u64 (((ByteArray.size s) : Nat) : Int))))
 bif (Nat.ble ((List.length (Qv s)) * 1) 140737488355328) then ((Qi.l0 k k ((b0.1, ((), (v1, ()))), ((Qv s), ()))).bind fun t6 => K ((t6.1.1, ((), (t6.1.2.2.1, ()))), (t6.2.1, ()))) else (none)
def Qi (k : Nat) (s : ByteArray) (b0 : QdK) : Option Qi.τ := Qi.c k s b0 some
def Qi.T : Q1d := ⟨[.ptr 0 [], .dat .str], [.pair (.dat QdN) (.pair (.nils) (.dat QdL))], 1⟩
def Qi.os : List Out := [⟨.ret, [.auto 1], ⟨[], [.pair (.dat QdN) (.pair (.vsl 1) (.dat QdL)), .vec (.int .u8)]⟩⟩]
def Qi.sem (k : Nat) : Qt := Q1o Qi.T Qi.os fun x => Qi k x.1 x.2.1
noncomputable def Qi.ctx (k : Nat) : Ctx := ⟨Tryz.prog, gam [(151, (QI.sem k))]⟩
theorem Qi.gok (k : Nat) : ∀ f, Qo Tryz.prog f ((Qi.ctx k).Γ f) := (Qd (QI.sem_ok k) QU)
theorem Qi.l0.round (k : Nat) : Q0V (Qi.ctx k) (Q0n (Func.code Tryz.f137) [1, 1, 1, 0, 0]) (.nil) Qi.l0.T [.mask [0], .auto 1] Qi.l0.os (Qi.l0.r k) := by
 intro ρ x kn ke; kernel_rfl
theorem Qi.l0.ok (k : Nat) : StOK 1 Tryz.prog (.loop (Q0n (Func.code Tryz.f137) [1, 1, 1, 0, 0])) (QK Qi.l0.T Qi.l0.os (Qi.l0 k k)) :=
 Q0X (C := Qi.ctx k) (Qi.gok k) Tryz.mix Q3.nil (by kernel_rfl) (by kernel_rfl) (by kernel_rfl) (Qi.l0.round k) k
def Qi.ann (k : Nat) : Ann := .node [] none (.nil) (.node [] none (.nil) (.node [] none (.nil) (.node [] none (.node [.mask [0], .auto 1] (some (QK Qi.l0.T Qi.l0.os (Qi.l0 k k))) .nil .nil) (.nil))))
theorem Qi.body (k : Nat) : Q1y (Qi.ctx k) Tryz.f137 (Func.code Tryz.f137) (Qi.ann k) Qi.T Qi.os (fun x K => Qi.c k x.1 x.2.1 K) := by
 intro ρ x K; kernel_rfl
theorem Qi.sem_ok (k : Nat) : Qo Tryz.prog 137 (Qi.sem k) :=
 Q0Y (C := Qi.ctx k) (Qi.gok k) Tryz.mix (c := Func.code Tryz.f137) (ann := Qi.ann k) (T := Qi.T) (os := Qi.os) (fun x K => Qi.c k x.1 x.2.1 K) Tryz.func137 (by kernel_rfl) (by kernel_rfl) (Q3.seq Q3.nil (Q3.seq Q3.nil (Q3.seq Q3.nil (Q3.block (Q3.loop (by kernel_rfl) (Qi.l0.ok k)))))) (Qi.body k) (by kernel_rfl) (by kernel_rfl) (by kernel_rfl)
abbrev Q00.τ : Type := (QdK × (List Int) × QdK × (List Int) × Unit)
def Q00.c (k : Nat) {ρ : Type} (b0 : QdK) (b1 : (List Int)) (K : Q00.τ → Option ρ) : Option ρ :=
 let v0 : (List Int) := b0.1
 bif (Nat.ble ((List.length b1) * 1) 140737488355328) then (let v1 : Int := b0.2.2.1
 K ((b0.1, ((), (b0.2.2.1, ()))), (b1, ((v0, ((), (v1, ()))), (b1, ()))))) else (none)
def Q00 (k : Nat) (b0 : QdK) (b1 : (List Int)) : Option Q00.τ := Q00.c k b0 b1 some
def Q00.T : Q1d := ⟨[.ptr 0 []], [.pair (.dat QdN) (.pair (.vsl 1) (.dat QdL)), .vec (.int .u8)], 1⟩
def Q00.os : List Out := [⟨.ret, [.auto 1], ⟨[.ptr 2 []], [.pair (.dat QdN) (.pair (.vsl 1) (.dat QdL)), .vec (.int .u8), .pair (.dat QdN) (.pair (.vsl 3) (.dat QdL)), .vec (.int .u8)]⟩⟩]
def Q00.sem (k : Nat) : Qt := Q1o Q00.T Q00.os fun x => Q00 k x.1 x.2.1
noncomputable def Q00.ctx (k : Nat) : Ctx := ⟨Tryz.prog, gam []⟩
theorem Q00.gok (k : Nat) : ∀ f, Qo Tryz.prog f ((Q00.ctx k).Γ f) := QU
def Q00.ann (k : Nat) : Ann := .nil
theorem Q00.body (k : Nat) : Q1y (Q00.ctx k) Tryz.f152 (Func.code Tryz.f152) (Q00.ann k) Q00.T Q00.os (fun x K => Q00.c k x.1 x.2.1 K) := by
 intro ρ x K; kernel_rfl
theorem Q00.sem_ok (k : Nat) : Qo Tryz.prog 152 (Q00.sem k) :=
 Q0Y (C := Q00.ctx k) (Q00.gok k) Tryz.mix (c := Func.code Tryz.f152) (ann := Q00.ann k) (T := Q00.T) (os := Q00.os) (fun x K => Q00.c k x.1 x.2.1 K) Tryz.func152 (by kernel_rfl) (by kernel_rfl) Q3.nil (Q00.body k) (by kernel_rfl) (by kernel_rfl) (by kernel_rfl)
abbrev Q0z.l0.σ : Type := Int × Int × (List Int) × Unit
abbrev Q0z.l0.τ : Type := QdQ 
def Q0z.l0.r (k : Nat) {ρ : Type} (x : Q0z.l0.σ) (kn : Q0z.l0.σ → Option ρ) (ke : Q0z.l0.τ → Option ρ) : Option ρ :=
 bif (decide (x.2.1 < (8 : Int))) then (let v5 : Int := (Q2Y IntKind.u64 x.1 (3 : Int))
 let v6 : Int := (IntKind.wrap IntKind.i64 ((7 : Int) - x.2.1))
 let v7 : Int := (IntKind.wrap IntKind.i64 ((8 : Int) * v6))
 bif (decide ((0 : Int) ≤ v7)) then (bif (Nat.ble (((List.length x.2.2.1) + (List.length (List.set (List.replicate 1 (0 : Int)) 0 (IntKind.wrap IntKind.u8 (Q22 IntKind.u64 v5 v7))))) * 1) 140737488355328) then (let v8 : Int := (IntKind.wrap IntKind.i64 (x.2.1 + (1 : Int)))
 kn (x.1, (v8, ((x.2.2.1 ++ (List.set (List.replicate 1 (0 : Int)) 0 (IntKind.wrap IntKind.u8 (Q22 IntKind.u64 v5 v7)))), ())))) else (none)) else (none)) else (ke (x.2.2.1, ()))
def Q0z.l0 (k : Nat) : Nat → Q0z.l0.σ → Option Q0z.l0.τ := Q0T (Q0z.l0.r k)
def Q0z.l0.T : StT := ⟨.dat (.int .u64) :: us 3 ++ .vsl 0 :: us 14 ++ .dat (.int .i64) :: us 15, [.vec (.int .u8)]⟩
def Q0z.l0.os : List Out := [⟨(.exit 0), [.mask [4], .auto 0], ⟨us 4 ++ .vsl 0 :: us 30, [.vec (.int .u8)]⟩⟩]
def Q0z.c (k : Nat) {ρ : Type} (n : Int) (K : ByteArray × Unit → Option ρ) : Option ρ :=
 let v0 : Int := (IntKind.wrap IntKind.i64 (Int.tmod n (64 : Int)))
 let v1 : Int := (IntKind.wrap IntKind.i64 ((119 : Int) - v0))
 let v2 : Int := (IntKind.wrap IntKind.i64 ((1 : Int) + (Int.tmod v1 (64 : Int))))
 let v3 : Int := (IntKind.wrap IntKind.i64 ((1 : Int) + (Int.tmod v1 (64 : Int))))
 let v4 : Int := (IntKind.wrap IntKind.i64 (v3 + (8 : Int)))
 bif ((decide (((0 : Int) ≤ v2) ∧ (v2 ≤ v4))) && (Nat.ble ((Int.toNat v4) * 1) 140737488355328)) then (bif (decide (((0 : Int) ≤ (0 : Int)) ∧ ((0 : Int) < (((List.length (List.replicate (Int.toNat v2) (0 : Int))) : Nat) : Int)))) then ((Q0z.l0 k k (n, ((0 : Int), ((List.set (List.replicate (Int.toNat v2) (0 : Int)) 0 (128 : Int)), ())))).bind fun t9 => K ((bytesOf t9.1), ())) else (none)) else (none)
def Q0z (k : Nat) (n : Int) : Option (ByteArray × Unit) := Q0z.c k n some
def Q0z.tin : List Ty := [(.int .u64)]
def Q0z.tout : List Ty := [.str]
def Q0z.sem (k : Nat) : Qt := QL Q0z.tin Q0z.tout fun x => Q0z k x.1
noncomputable def Q0z.ctx (k : Nat) : Ctx := ⟨Tryz.prog, gam []⟩
theorem Q0z.gok (k : Nat) : ∀ f, Qo Tryz.prog f ((Q0z.ctx k).Γ f) := QU
theorem Q0z.l0.round (k : Nat) : Q0V (Q0z.ctx k) (Q0n (Func.code Tryz.f153) [1, 1, 1, 1, 0, 1, 0, 0]) (.nil) Q0z.l0.T [.mask [0, 4, 19], .auto 0] Q0z.l0.os (Q0z.l0.r k) := by
 intro ρ x kn ke; kernel_rfl
theorem Q0z.l0.ok (k : Nat) : StOK 0 Tryz.prog (.loop (Q0n (Func.code Tryz.f153) [1, 1, 1, 1, 0, 1, 0, 0])) (QK Q0z.l0.T Q0z.l0.os (Q0z.l0 k k)) :=
 Q0X (C := Q0z.ctx k) (Q0z.gok k) Tryz.mix Q3.nil (by kernel_rfl) (by kernel_rfl) (by kernel_rfl) (Q0z.l0.round k) k
def Q0z.ann (k : Nat) : Ann := .node [] none (.nil) (.node [] none (.nil) (.node [] none (.nil) (.node [] none (.nil) (.node [] none (.node [] none (.nil) (.node [] none (.node [.mask [0, 4, 19], .auto 0] (some (QK Q0z.l0.T Q0z.l0.os (Q0z.l0 k k))) .nil .nil) (.nil))) (.nil)))))
theorem Q0z.body (k : Nat) : Q0C (Q0z.ctx k) Tryz.f153 (Func.code Tryz.f153) (Q0z.ann k) Q0z.tin Q0z.tout (fun x K => Q0z.c k x.1 K) := by
 intro ρ x K; kernel_rfl
theorem Q0z.sem_ok (k : Nat) : Qo Tryz.prog 153 (Q0z.sem k) :=
 Qw (C := Q0z.ctx k) (Q0z.gok k) Tryz.mix (c := Func.code Tryz.f153) (ann := Q0z.ann k) (tin := Q0z.tin) (tout := Q0z.tout) (fun x K => Q0z.c k x.1 K) Tryz.func153 (by kernel_rfl) (by kernel_rfl) (Q3.seq Q3.nil (Q3.seq Q3.nil (Q3.seq Q3.nil (Q3.seq Q3.nil (Q3.seq (Q3.seq Q3.nil (Q3.block (Q3.loop (by kernel_rfl) (Q0z.l0.ok k)))) Q3.nil))))) (Q0z.body k)
abbrev Qc.l0.σ : Type := QdK × (List Int) × Unit
abbrev Qc.l0.τ : Type := QdI 
def Qc.l0.r (k : Nat) {ρ : Type} (x : Qc.l0.σ) (kn : Qc.l0.σ → Option ρ) (ke : Qc.l0.τ → Option ρ) : Option ρ :=
 let v2 : Int := (((List.length x.2.1) : Nat) : Int)
 bif (decide (v2 ≥ (64 : Int))) then (let v3 : (List Int) := x.1.1
 bif (decide (64 ≤ (List.length x.2.1))) then (let v4 : (List Int) := (List.take 64 (List.drop 0 x.2.1))
 (QI k v3 v4).bind fun t5 => bif (decide (((0 : Int) ≤ (64 : Int)) ∧ (((64 : Int) ≤ (((List.length x.2.1) : Nat) : Int)) ∧ ((((List.length x.2.1) : Nat) : Int) ≤ (((List.length x.2.1) : Nat) : Int))))) then (kn ((t5.1, ((), (x.1.2.2.1, ()))), ((List.take (Int.toNat ((((List.length x.2.1) : Nat) : Int) - (64 : Int))) (List.drop 64 x.2.1)), ()))) else (none)) else (none)) else (ke ((x.1.1, ((), (x.1.2.2.1, ()))), (x.2.1, ())))
def Qc.l0 (k : Nat) : Nat → Qc.l0.σ → Option Qc.l0.τ := Q0T (Qc.l0.r k)
def Qc.l0.T : StT := ⟨.ptr 0 [] :: us 52, [.pair (.dat QdN) (.pair (.vsl 1) (.dat QdL)), .vec (.int .u8)]⟩
def Qc.l0.os : List Out := [⟨(.exit 0), [.mask [], .auto 1], ⟨us 53, [.pair (.dat QdN) (.pair (.vsl 1) (.dat QdL)), .vec (.int .u8)]⟩⟩]
abbrev Qc.τ : Type := QdI 
def Qc.c (k : Nat) {ρ : Type} (s : ByteArray) (b0 : QdK) (b1 : (List Int)) (K : Qc.τ → Option ρ) : Option ρ :=
 let v0 : Int := b0.2.2.1
 let v1 : Int := (IntKind.wrap IntKind.u64 (v0 + (IntKind.wrap IntKind.u64 (((ByteArray.size s) : Nat) : Int))))
 bif (Nat.ble (((List.length b1) + (List.length (Qv s))) * 1) 140737488355328) then ((Qc.l0 k k ((b0.1, ((), (v1, ()))), ((b1 ++ (Qv s)), ()))).bind fun t6 => K ((t6.1.1, ((), (t6.1.2.2.1, ()))), (t6.2.1, ()))) else (none)
def Qc (k : Nat) (s : ByteArray) (b0 : QdK) (b1 : (List Int)) : Option Qc.τ := Qc.c k s b0 b1 some
def Qc.T : Q1d := ⟨[.ptr 0 [], .dat .str], [.pair (.dat QdN) (.pair (.vsl 1) (.dat QdL)), .vec (.int .u8)], 1⟩
def Qc.os : List Out := [⟨.ret, [.auto 1], ⟨[], [.pair (.dat QdN) (.pair (.vsl 1) (.dat QdL)), .vec (.int .u8)]⟩⟩]
def Qc.sem (k : Nat) : Qt := Q1o Qc.T Qc.os fun x => Qc k x.1 x.2.1 x.2.2.1
noncomputable def Qc.ctx (k : Nat) : Ctx := ⟨Tryz.prog, gam [(151, (QI.sem k))]⟩
theorem Qc.gok (k : Nat) : ∀ f, Qo Tryz.prog f ((Qc.ctx k).Γ f) := (Qd (QI.sem_ok k) QU)
theorem Qc.l0.round (k : Nat) : Q0V (Qc.ctx k) (Q0n (Func.code Tryz.f137) [1, 1, 1, 0, 0]) (.nil) Qc.l0.T [.mask [0], .auto 1] Qc.l0.os (Qc.l0.r k) := by
 intro ρ x kn ke; kernel_rfl
theorem Qc.l0.ok (k : Nat) : StOK 1 Tryz.prog (.loop (Q0n (Func.code Tryz.f137) [1, 1, 1, 0, 0])) (QK Qc.l0.T Qc.l0.os (Qc.l0 k k)) :=
 Q0X (C := Qc.ctx k) (Qc.gok k) Tryz.mix Q3.nil (by kernel_rfl) (by kernel_rfl) (by kernel_rfl) (Qc.l0.round k) k
def Qc.ann (k : Nat) : Ann := .node [] none (.nil) (.node [] none (.nil) (.node [] none (.nil) (.node [] none (.node [.mask [0], .auto 1] (some (QK Qc.l0.T Qc.l0.os (Qc.l0 k k))) .nil .nil) (.nil))))
theorem Qc.body (k : Nat) : Q1y (Qc.ctx k) Tryz.f137 (Func.code Tryz.f137) (Qc.ann k) Qc.T Qc.os (fun x K => Qc.c k x.1 x.2.1 x.2.2.1 K) := by
 intro ρ x K; kernel_rfl
theorem Qc.sem_ok (k : Nat) : Qo Tryz.prog 137 (Qc.sem k) :=
 Q0Y (C := Qc.ctx k) (Qc.gok k) Tryz.mix (c := Func.code Tryz.f137) (ann := Qc.ann k) (T := Qc.T) (os := Qc.os) (fun x K => Qc.c k x.1 x.2.1 x.2.2.1 K) Tryz.func137 (by kernel_rfl) (by kernel_rfl) (Q3.seq Q3.nil (Q3.seq Q3.nil (Q3.seq Q3.nil (Q3.block (Q3.loop (by kernel_rfl) (Qc.l0.ok k)))))) (Qc.body k) (by kernel_rfl) (by kernel_rfl) (by kernel_rfl)
abbrev Q9.l1.σ : Type := Int × Int × (List Int) × Int × Int × QdK × (List Int) × (List Int) × (List Int) × Unit
abbrev Q9.l1.τ : Type := ((List Int) × Int × QdK × (List Int) × (List Int) × (List Int) × Unit)
def Q9.l1.r (k : Nat) {ρ : Type} (x : Q9.l1.σ) (kn : Q9.l1.σ → Option ρ) (ke : Q9.l1.τ → Option ρ) : Option ρ :=
 bif (decide (x.2.2.2.2.1 < (4 : Int))) then (let v6 : Int := (IntKind.wrap IntKind.i64 ((4 : Int) * x.1))
 let v7 : Int := (IntKind.wrap IntKind.i64 (v6 + x.2.2.2.2.1))
 let v8 : Int := (IntKind.wrap IntKind.i64 ((3 : Int) - x.2.2.2.2.1))
 let v9 : Int := (IntKind.wrap IntKind.i64 ((8 : Int) * v8))
 bif (decide ((0 : Int) ≤ v9)) then (let v10 : Int := (Q22 IntKind.u32 x.2.1 v9)
 bif (decide (((0 : Int) ≤ v7) ∧ (v7 < ((32 : Nat) : Int)))) then (let v11 : Int := (IntKind.wrap IntKind.i64 (x.2.2.2.2.1 + (1 : Int)))
 kn (x.1, (x.2.1, (x.2.2.1, (x.2.2.2.1, (v11, ((x.2.2.2.2.2.1.1, ((), (x.2.2.2.2.2.1.2.2.1, ()))), (x.2.2.2.2.2.2.1, (x.2.2.2.2.2.2.2.1, ((List.set x.2.2.2.2.2.2.2.2.1 (Int.toNat v7) (IntKind.wrap IntKind.u8 v10)), ())))))))))) else (none)) else (none)) else (ke (x.2.2.1, (x.2.2.2.1, ((x.2.2.2.2.2.1.1, ((), (x.2.2.2.2.2.1.2.2.1, ()))), (x.2.2.2.2.2.2.1, (x.2.2.2.2.2.2.2.1, (x.2.2.2.2.2.2.2.2.1, ())))))))
def Q9.l1 (k : Nat) : Nat → Q9.l1.σ → Option Q9.l1.τ := Q0T (Q9.l1.r k)
def Q9.l1.T : StT := ⟨us 2 ++ .ptr 2 [] :: us 1 ++ .ptr 3 [] :: .dat (.int .i64) :: .dat (.int .u32) :: us 17 ++ .dat QdN :: .dat (.int .i64) :: us 3 ++ .dat (.int .i64) :: us 16, [.pair (.dat QdN) (.pair (.vsl 1) (.dat QdL)), .vec (.int .u8), .dat QdP, .dat QdP]⟩
def Q9.l1.os : List Out := [⟨(.exit 2), [.mask [2, 4, 24, 25], .auto 1], ⟨us 2 ++ .ptr 2 [] :: us 1 ++ .ptr 3 [] :: us 19 ++ .dat QdN :: .dat (.int .i64) :: us 20, [.pair (.dat QdN) (.pair (.vsl 1) (.dat QdL)), .vec (.int .u8), .dat QdP, .dat QdP]⟩⟩]
abbrev Q9.l0.σ : Type := (List Int) × Int × QdK × (List Int) × (List Int) × (List Int) × Unit
abbrev Q9.l0.τ : Type := (QdK × (List Int) × (List Int) × (List Int) × Unit)
def Q9.l0.r (k : Nat) {ρ : Type} (x : Q9.l0.σ) (kn : Q9.l0.σ → Option ρ) (ke : Q9.l0.τ → Option ρ) : Option ρ :=
 bif (decide (x.2.1 < (8 : Int))) then (bif (decide (((0 : Int) ≤ x.2.1) ∧ (x.2.1 < ((8 : Nat) : Int)))) then (let v5 : Int := (List.getD x.1 (Int.toNat x.2.1) (0 : Int))
 (Q9.l1 k k (x.2.1, (v5, (x.1, (x.2.1, ((0 : Int), ((x.2.2.1.1, ((), (x.2.2.1.2.2.1, ()))), (x.2.2.2.1, (x.2.2.2.2.1, (x.2.2.2.2.2.1, ())))))))))).bind fun t12 => let v13 : Int := (IntKind.wrap IntKind.i64 (t12.2.1 + (1 : Int)))
 kn (t12.1, (v13, ((t12.2.2.1.1, ((), (t12.2.2.1.2.2.1, ()))), (t12.2.2.2.1, (t12.2.2.2.2.1, (t12.2.2.2.2.2.1, ()))))))) else (none)) else (ke ((x.2.2.1.1, ((), (x.2.2.1.2.2.1, ()))), (x.2.2.2.1, (x.2.2.2.2.1, (x.2.2.2.2.2.1, ())))))
def Q9.l0 (k : Nat) : Nat → Q9.l0.σ → Option Q9.l0.τ := Q0T (Q9.l0.r k)
def Q9.l0.T : StT := ⟨us 2 ++ .ptr 2 [] :: us 1 ++ .ptr 3 [] :: us 19 ++ .dat QdN :: .dat (.int .i64) :: us 20, [.pair (.dat QdN) (.pair (.vsl 1) (.dat QdL)), .vec (.int .u8), .dat QdP, .dat QdP]⟩
def Q9.l0.os : List Out := [⟨(.exit 0), [.mask [2, 4], .auto 1], ⟨us 2 ++ .ptr 2 [] :: us 1 ++ .ptr 3 [] :: us 41, [.pair (.dat QdN) (.pair (.vsl 1) (.dat QdL)), .vec (.int .u8), .dat QdP, .dat QdP]⟩⟩]
abbrev Q9.τ : Type := ((List Int) × QdK × (List Int) × Unit)
def Q9.c (k : Nat) {ρ : Type} (b0 : QdK) (b1 : (List Int)) (K : Q9.τ → Option ρ) : Option ρ :=
 (Q00 k (b0.1, ((), (b0.2.2.1, ()))) b1).bind fun t0 => let v1 : Int := t0.1.2.2.1
 (Q0z k v1).bind fun t2 => (Qc k t2.1 (t0.2.2.1.1, ((), (t0.2.2.1.2.2.1, ()))) t0.2.2.2.1).bind fun t3 => let v4 : (List Int) := t3.1.1
 (Q9.l0 k k (v4, ((0 : Int), ((t0.1.1, ((), (t0.1.2.2.1, ()))), (t0.2.1, ((List.replicate 32 (0 : Int)), ((List.replicate 32 (0 : Int)), ()))))))).bind fun t14 => let v15 : (List Int) := t14.2.2.2.1
 K (v15, ((t14.1.1, ((), (t14.1.2.2.1, ()))), (t14.2.1, ())))
def Q9 (k : Nat) (b0 : QdK) (b1 : (List Int)) : Option Q9.τ := Q9.c k b0 b1 some
def Q9.T : Q1d := ⟨[.ptr 0 []], [.pair (.dat QdN) (.pair (.vsl 1) (.dat QdL)), .vec (.int .u8)], 1⟩
def Q9.os : List Out := [⟨.ret, [.freeze (.slot 0), .auto 1], ⟨[.dat QdP], [.pair (.dat QdN) (.pair (.vsl 1) (.dat QdL)), .vec (.int .u8)]⟩⟩]
def Q9.sem (k : Nat) : Qt := Q1o Q9.T Q9.os fun x => Q9 k x.1 x.2.1
noncomputable def Q9.ctx (k : Nat) : Ctx := ⟨Tryz.prog, gam [(152, (Q00.sem k)), (153, (Q0z.sem k)), (137, (Qc.sem k))]⟩
theorem Q9.gok (k : Nat) : ∀ f, Qo Tryz.prog f ((Q9.ctx k).Γ f) := (Qd (Q00.sem_ok k) (Qd (Q0z.sem_ok k) (Qd (Qc.sem_ok k) QU)))
theorem Q9.l1.round (k : Nat) : Q0V (Q9.ctx k) (Q0n (Func.code Tryz.f138) [1, 1, 1, 1, 1, 0, 1, 0, 0, 1, 1, 0, 0, 1, 1, 0, 0]) (.nil) Q9.l1.T [.mask [2, 4, 5, 6, 24, 25, 29], .auto 1] Q9.l1.os (Q9.l1.r k) := by
 intro ρ x kn ke; kernel_rfl
theorem Q9.l1.ok (k : Nat) : StOK 1 Tryz.prog (.loop (Q0n (Func.code Tryz.f138) [1, 1, 1, 1, 1, 0, 1, 0, 0, 1, 1, 0, 0, 1, 1, 0, 0])) (QK Q9.l1.T Q9.l1.os (Q9.l1 k k)) :=
 Q0X (C := Q9.ctx k) (Q9.gok k) Tryz.mix Q3.nil (by kernel_rfl) (by kernel_rfl) (by kernel_rfl) (Q9.l1.round k) k
theorem Q9.l0.round (k : Nat) : Q0V (Q9.ctx k) (Q0n (Func.code Tryz.f138) [1, 1, 1, 1, 1, 0, 1, 0, 0]) (.node [] none (.nil) (.node [] none (.nil) (.node [] none (.node [] none (.node [] none (.nil) (.node [] none (.nil) (.node [] none (.node [.mask [2, 4, 5, 6, 24, 25, 29], .auto 1] (some (QK Q9.l1.T Q9.l1.os (Q9.l1 k k))) .nil .nil) (.nil)))) (.nil)) (.nil)))) Q9.l0.T [.mask [2, 4, 24, 25], .auto 1] Q9.l0.os (Q9.l0.r k) := by
 intro ρ x kn ke; kernel_rfl
theorem Q9.l0.ok (k : Nat) : StOK 1 Tryz.prog (.loop (Q0n (Func.code Tryz.f138) [1, 1, 1, 1, 1, 0, 1, 0, 0])) (QK Q9.l0.T Q9.l0.os (Q9.l0 k k)) :=
 Q0X (C := Q9.ctx k) (Q9.gok k) Tryz.mix (Q3.seq Q3.nil (Q3.seq Q3.nil (Q3.seq (Q3.block (Q3.seq Q3.nil (Q3.seq Q3.nil (Q3.block (Q3.loop (by kernel_rfl) (Q9.l1.ok k)))))) Q3.nil))) (by kernel_rfl) (by kernel_rfl) (by kernel_rfl) (Q9.l0.round k) k
def Q9.ann (k : Nat) : Ann := .node [] none (.nil) (.node [] none (.nil) (.node [] none (.nil) (.node [] none (.nil) (.node [] none (.nil) (.node [] none (.node [] none (.nil) (.node [] none (.node [.mask [2, 4, 24, 25], .auto 1] (some (QK Q9.l0.T Q9.l0.os (Q9.l0 k k))) .nil .nil) (.nil))) (.nil))))))
theorem Q9.body (k : Nat) : Q1y (Q9.ctx k) Tryz.f138 (Func.code Tryz.f138) (Q9.ann k) Q9.T Q9.os (fun x K => Q9.c k x.1 x.2.1 K) := by
 intro ρ x K; kernel_rfl
theorem Q9.sem_ok (k : Nat) : Qo Tryz.prog 138 (Q9.sem k) :=
 Q0Y (C := Q9.ctx k) (Q9.gok k) Tryz.mix (c := Func.code Tryz.f138) (ann := Q9.ann k) (T := Q9.T) (os := Q9.os) (fun x K => Q9.c k x.1 x.2.1 K) Tryz.func138 (by kernel_rfl) (by kernel_rfl) (Q3.seq Q3.nil (Q3.seq Q3.nil (Q3.seq Q3.nil (Q3.seq Q3.nil (Q3.seq Q3.nil (Q3.seq (Q3.seq Q3.nil (Q3.block (Q3.loop (by kernel_rfl) (Q9.l0.ok k)))) Q3.nil)))))) (Q9.body k) (by kernel_rfl) (by kernel_rfl) (by kernel_rfl)
def Q12.c (k : Nat) {ρ : Type} (s : ByteArray) (K : (List Int) × Unit → Option ρ) : Option ρ :=
 (Q10 k ).bind fun t0 => (Qi k s (t0.1.1, ((), (t0.1.2.2.1, ())))).bind fun t1 => (Q9 k (t1.1.1, ((), (t1.1.2.2.1, ()))) t1.2.1).bind fun t2 => K (t2.1, ())
def Q12 (k : Nat) (s : ByteArray) : Option QdQ := Q12.c k s some
def Q12.tin : List Ty := [.str]
def Q12.tout : List Ty := [QdP]
def Q12.sem (k : Nat) : Qt := QL Q12.tin Q12.tout fun x => Q12 k x.1
noncomputable def Q12.ctx (k : Nat) : Ctx := ⟨Tryz.prog, gam [(136, (Q10.sem k)), (137, (Qi.sem k)), (138, (Q9.sem k))]⟩
theorem Q12.gok (k : Nat) : ∀ f, Qo Tryz.prog f ((Q12.ctx k).Γ f) := (Qd (Q10.sem_ok k) (Qd (Qi.sem_ok k) (Qd (Q9.sem_ok k) QU)))
def Q12.ann (k : Nat) : Ann := .nil
theorem Q12.body (k : Nat) : Q0C (Q12.ctx k) Tryz.f118 (Func.code Tryz.f118) (Q12.ann k) Q12.tin Q12.tout (fun x K => Q12.c k x.1 K) := by
 intro ρ x K; kernel_rfl
theorem Q12.sem_ok (k : Nat) : Qo Tryz.prog 118 (Q12.sem k) :=
 Qw (C := Q12.ctx k) (Q12.gok k) Tryz.mix (c := Func.code Tryz.f118) (ann := Q12.ann k) (tin := Q12.tin) (tout := Q12.tout) (fun x K => Q12.c k x.1 K) Tryz.func118 (by kernel_rfl) (by kernel_rfl) Q3.nil (Q12.body k)
def Q0D.c (k : Nat) {ρ : Type} (s : ByteArray) (K : (List Int) × Unit → Option ρ) : Option ρ :=
 (Q12 k s).bind fun t0 => let v1 : ByteArray := (bytesOf (List.take 32 (List.drop 0 t0.1)))
 (Q12 k v1).bind fun t2 => K (t2.1, ())
def Q0D (k : Nat) (s : ByteArray) : Option QdQ := Q0D.c k s some
def Q0D.tin : List Ty := [.str]
def Q0D.tout : List Ty := [QdP]
def Q0D.sem (k : Nat) : Qt := QL Q0D.tin Q0D.tout fun x => Q0D k x.1
noncomputable def Q0D.ctx (k : Nat) : Ctx := ⟨Tryz.prog, gam [(118, (Q12.sem k))]⟩
theorem Q0D.gok (k : Nat) : ∀ f, Qo Tryz.prog f ((Q0D.ctx k).Γ f) := (Qd (Q12.sem_ok k) QU)
def Q0D.ann (k : Nat) : Ann := .nil
theorem Q0D.body (k : Nat) : Q0C (Q0D.ctx k) Tryz.f91 (Func.code Tryz.f91) (Q0D.ann k) Q0D.tin Q0D.tout (fun x K => Q0D.c k x.1 K) := by
 intro ρ x K; kernel_rfl
theorem Q0D.sem_ok (k : Nat) : Qo Tryz.prog 91 (Q0D.sem k) :=
 Qw (C := Q0D.ctx k) (Q0D.gok k) Tryz.mix (c := Func.code Tryz.f91) (ann := Q0D.ann k) (tin := Q0D.tin) (tout := Q0D.tout) (fun x K => Q0D.c k x.1 K) Tryz.func91 (by kernel_rfl) (by kernel_rfl) Q3.nil (Q0D.body k)
def Q0J.c (k : Nat) {ρ : Type} (h : (Int × ((List Int) × ((List Int) × (Int × (Int × (Int × Unit))))))) (K : (List Int) × Unit → Option ρ) : Option ρ :=
 (Q0t k (h.1, (h.2.1, (h.2.2.1, (h.2.2.2.1, (h.2.2.2.2.1, (h.2.2.2.2.2.1, ()))))))).bind fun t0 => (Q0D k t0.1).bind fun t1 => K (t1.1, ())
def Q0J (k : Nat) (h : (Int × ((List Int) × ((List Int) × (Int × (Int × (Int × Unit))))))) : Option QdQ := Q0J.c k h some
def Q0J.tin : List Ty := [(.pair (.int .u32) (.pair QdP (.pair QdP (.pair (.int .u32) (.pair (.int .u32) (.pair (.int .u32) .unit))))))]
def Q0J.tout : List Ty := [QdP]
def Q0J.sem (k : Nat) : Qt := QL Q0J.tin Q0J.tout fun x => Q0J k x.1
noncomputable def Q0J.ctx (k : Nat) : Ctx := ⟨Tryz.prog, gam [(35, (Q0t.sem k)), (91, (Q0D.sem k))]⟩
theorem Q0J.gok (k : Nat) : ∀ f, Qo Tryz.prog f ((Q0J.ctx k).Γ f) := (Qd (Q0t.sem_ok k) (Qd (Q0D.sem_ok k) QU))
def Q0J.ann (k : Nat) : Ann := .nil
theorem Q0J.body (k : Nat) : Q0C (Q0J.ctx k) Tryz.f46 (Func.code Tryz.f46) (Q0J.ann k) Q0J.tin Q0J.tout (fun x K => Q0J.c k x.1 K) := by
 intro ρ x K; kernel_rfl
theorem Q0J.sem_ok (k : Nat) : Qo Tryz.prog 46 (Q0J.sem k) :=
 Qw (C := Q0J.ctx k) (Q0J.gok k) Tryz.mix (c := Func.code Tryz.f46) (ann := Q0J.ann k) (tin := Q0J.tin) (tout := Q0J.tout) (fun x K => Q0J.c k x.1 K) Tryz.func46 (by kernel_rfl) (by kernel_rfl) Q3.nil (Q0J.body k)
end Go.Am
