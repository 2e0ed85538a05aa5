/- A part of a proof: a machine of abstract values that tells what functions of the program compute, and the plain facts on them. -/
import Derived.Test.YtnibopdcpbebcaaGreatAm5
import Derived.Test.YtnibopdcpbebcaaGreatRows
import Derived.KernelRfl
import Derived.Test.YtnibopdcpbebcaaGreatProg
import Derived.Test.YtnibopdcpbebcaaGreatAm6
set_option linter.unusedVariables false
set_option linter.unusedSimpArgs false
set_option linter.unnecessarySimpa false
set_option linter.unusedSectionVars false
namespace Go.Am
abbrev QgZ : Type := ((List Int) × Unit)
abbrev QgY : Ty := (.arr 32 (.int .u8))
abbrev QgX : Ty := (.arr 64 (.int .u8))
abbrev QgW : Ty := (.arr 8 (.int .u32))
abbrev QgV : Ty := (.arr 64 (.int .u32))
abbrev QgU : Ty := (.pair (.int .u64) .unit)
abbrev QgT : Type := ((List Int) × (List Int) × Unit)
abbrev QgS : Type := ((List Int) × (Unit × (Int × Unit)))
abbrev QgR : Type := ((List Int) × (List Int) × (List Int) × Unit)
abbrev QgQ : Type := ( QgS  × (List Int) × Unit)
end Go.Am
namespace Go.Proofs.YtnibopdcpbebcaaGreat
open Go.RowKit Go.Am
theorem Tryz.own : ownKnob Tryz.prog.godebug = none := by kernel_rfl
theorem Tryz.laidOut : laidOutB Tryz.prog = true := by kernel_rfl
end Go.Proofs.YtnibopdcpbebcaaGreat
namespace Go.Am
open Go
theorem Qf3 {p : Int → Prop} {l : List Int} (h : ∀ i, i < l.length → p (l.getD i 0)) : ∀ x ∈ l, p x := by
 intro x hx
 obtain ⟨i, hi, rfl⟩ := List.getElem_of_mem hx
 have := h i hi
 rw [List.getD_eq_getElem?_getD] at this
 simpa [hi] using this
theorem Qf7 : reachBytes = 140737488351232 := rfl
end Go.Am
namespace Go.Am
open Go Go.Proofs
theorem _root_.Go.Proofs.Tryz.mix : Tryz.prog.follows .mixedOrders = true := by kernel_rfl
end Go.Am
namespace Go.Am
open Go Go.Proofs Go.Shelf
set_option maxRecDepth 100000
def Bld.fs : List (Nat × Nat) := [(240, 110), (276, 122), (169, 57)]
def Bld.ts : List (Nat × Nat) := [(72, 109), (70, 107), (164, 203), (37, 78), (127, 164)]
def Bld.look : List (Nat × Nat) → Nat → Nat
 | [], n => n
 | (a, b) :: l, n => if n = a then b else Bld.look l n
def Bld.ren : Ren := ⟨Bld.look Bld.fs, Bld.look Bld.ts, fun n => n⟩
theorem Bld.lays240 : Lays.n240 Tryz.prog Bld.ren := by
 constructor <;> first | kernel_rfl | (intro w; kernel_rfl)
theorem Bld.lays169 : Lays.n169 Tryz.prog Bld.ren := by
 constructor <;> first | kernel_rfl | (intro w; kernel_rfl)
theorem Bld.x72 : Builder.X72 Tryz.prog Bld.ren where
 sizeBuilder := by kernel_rfl
 liesBuilder := by kernel_rfl
theorem Bld.extra : Builder.Extra Tryz.prog Bld.ren where
 sizeBuilder := by kernel_rfl
 liesBuilder := by kernel_rfl
 t5 := by kernel_rfl
 a5 := fun w => by kernel_rfl
 z5 := fun w => by kernel_rfl
 v5 := fun w => by kernel_rfl
 infoByte := by kernel_rfl
 cellsByte := by kernel_rfl
 sizeByte := by kernel_rfl
 neB5 := by decide
theorem Bld.copyCheck : QI Tryz.prog 110 (Qf0 111 2) := Qb1 Bld.lays240 Bld.x72 (by kernel_rfl) (by constructor <;> kernel_rfl)
theorem Bld.string : QI Tryz.prog 57 QcV := QdZ Bld.lays169 Bld.extra rfl (by constructor <;> kernel_rfl)
end Go.Am
namespace Go.Am
open Go Go.Proofs
set_option maxRecDepth 100000
def Q1z.c (k : Nat) {ρ : Type}  (K : (List Int) × Unit → Option ρ) : Option ρ :=
 let v0 : (List Int) := (List.set (List.set (List.set (List.set (List.set (List.set (List.set (List.set (List.replicate 8 (0 : Int)) 0 (1779033703 : Int)) 1 (3144134277 : Int)) 2 (1013904242 : Int)) 3 (2773480762 : Int)) 4 (1359893119 : Int)) 5 (2600822924 : Int)) 6 (528734635 : Int)) 7 (1541459225 : Int))
 K (v0, ())
def Q1z (k : Nat)  : Option QgZ := Q1z.c k  some
def Q1z.tin : List Ty := []
def Q1z.tout : List Ty := [QgW]
def Q1z.sem (k : Nat) : QT := Q00 Q1z.tin Q1z.tout fun x => Q1z k 
noncomputable def Q1z.ctx (k : Nat) : Ctx := ⟨Tryz.prog, gam []⟩
theorem Q1z.gok (k : Nat) : ∀ f, QI Tryz.prog f ((Q1z.ctx k).Γ f) := Q01
def Q1z.ann (k : Nat) : Ann := .nil
theorem Q1z.body (k : Nat) : Q0W (Q1z.ctx k) Tryz.f111 (Func.code Tryz.f111) (Q1z.ann k) Q1z.tin Q1z.tout (fun x K => Q1z.c k  K) := by
 intro ρ x K; kernel_rfl
theorem Q1z.sem_ok (k : Nat) : QI Tryz.prog 111 (Q1z.sem k) :=
 QG (C := Q1z.ctx k) (Q1z.gok k) Tryz.mix (c := Func.code Tryz.f111) (ann := Q1z.ann k) (tin := Q1z.tin) (tout := Q1z.tout) (fun x K => Q1z.c k  K) Tryz.func111 (by kernel_rfl) (by kernel_rfl) Q1.nil (Q1z.body k)
abbrev Q1R.τ : Type := (QgS × Unit)
def Q1R.c (k : Nat) {ρ : Type}  (K : Q1R.τ → Option ρ) : Option ρ :=
 (Q1z k ).bind fun t0 => K ((t0.1, ((), ((0 : Int), ()))), ())
def Q1R (k : Nat)  : Option Q1R.τ := Q1R.c k  some
def Q1R.T : Q27 := ⟨[], [], 0⟩
def Q1R.os : List Out := [⟨.ret, [.auto 0], ⟨[.ptr 0 []], [.pair (.dat QgW) (.pair (.nils) (.dat QgU))]⟩⟩]
def Q1R.sem (k : Nat) : QT := Q2j Q1R.T Q1R.os fun x => Q1R k 
noncomputable def Q1R.ctx (k : Nat) : Ctx := ⟨Tryz.prog, gam [(111, (Q1z.sem k))]⟩
theorem Q1R.gok (k : Nat) : ∀ f, QI Tryz.prog f ((Q1R.ctx k).Γ f) := (Ql (Q1z.sem_ok k) Q01)
def Q1R.ann (k : Nat) : Ann := .nil
theorem Q1R.body (k : Nat) : Q2k (Q1R.ctx k) Tryz.f91 (Func.code Tryz.f91) (Q1R.ann k) Q1R.T Q1R.os (fun x K => Q1R.c k  K) := by
 intro ρ x K; kernel_rfl
theorem Q1R.sem_ok (k : Nat) : QI Tryz.prog 91 (Q1R.sem k) :=
 Q1G (C := Q1R.ctx k) (Q1R.gok k) Tryz.mix (c := Func.code Tryz.f91) (ann := Q1R.ann k) (T := Q1R.T) (os := Q1R.os) (fun x K => Q1R.c k  K) Tryz.func91 (by kernel_rfl) (by kernel_rfl) Q1.nil (Q1R.body k) (by kernel_rfl) (by kernel_rfl) (by kernel_rfl)
def QY.c (k : Nat) {ρ : Type} (x_0 : Int) (k_1 : Int) (K : Int × Unit → Option ρ) : Option ρ :=
 let v0 : Int := (Q12 BinOp.and IntKind.u64 (IntKind.wrap IntKind.u64 k_1) (31 : Int))
 bif (decide ((0 : Int) ≤ v0)) then (let v1 : Int := (IntKind.wrap IntKind.u64 ((32 : Int) - v0))
 bif (decide ((0 : Int) ≤ v1)) then (let v2 : Int := (Q12 BinOp.or IntKind.u32 (Q2w IntKind.u32 x_0 v0) (Q2c IntKind.u32 x_0 v1))
 K (v2, ())) else (none)) else (none)
def QY (k : Nat) (x_0 : Int) (k_1 : Int) : Option (Int × Unit) := QY.c k x_0 k_1 some
def QY.tin : List Ty := [(.int .u32), (.int .i64)]
def QY.tout : List Ty := [(.int .u32)]
def QY.sem (k : Nat) : QT := Q00 QY.tin QY.tout fun x => QY k x.1 x.2.1
noncomputable def QY.ctx (k : Nat) : Ctx := ⟨Tryz.prog, gam []⟩
theorem QY.gok (k : Nat) : ∀ f, QI Tryz.prog f ((QY.ctx k).Γ f) := Q01
def QY.ann (k : Nat) : Ann := .nil
theorem QY.body (k : Nat) : Q0W (QY.ctx k) Tryz.f132 (Func.code Tryz.f132) (QY.ann k) QY.tin QY.tout (fun x K => QY.c k x.1 x.2.1 K) := by
 intro ρ x K; kernel_rfl
theorem QY.sem_ok (k : Nat) : QI Tryz.prog 132 (QY.sem k) :=
 QG (C := QY.ctx k) (QY.gok k) Tryz.mix (c := Func.code Tryz.f132) (ann := QY.ann k) (tin := QY.tin) (tout := QY.tout) (fun x K => QY.c k x.1 x.2.1 K) Tryz.func132 (by kernel_rfl) (by kernel_rfl) Q1.nil (QY.body k)
def Q13.c (k : Nat) {ρ : Type} (x_0 : Int) (n : Int) (K : Int × Unit → Option ρ) : Option ρ :=
 let v0 : Int := (IntKind.wrap IntKind.i64 ((0 : Int) - n))
 (QY k x_0 v0).bind fun t1 => K (t1.1, ())
def Q13 (k : Nat) (x_0 : Int) (n : Int) : Option (Int × Unit) := Q13.c k x_0 n some
def Q13.tin : List Ty := [(.int .u32), (.int .i64)]
def Q13.tout : List Ty := [(.int .u32)]
def Q13.sem (k : Nat) : QT := Q00 Q13.tin Q13.tout fun x => Q13 k x.1 x.2.1
noncomputable def Q13.ctx (k : Nat) : Ctx := ⟨Tryz.prog, gam [(132, (QY.sem k))]⟩
theorem Q13.gok (k : Nat) : ∀ f, QI Tryz.prog f ((Q13.ctx k).Γ f) := (Ql (QY.sem_ok k) Q01)
def Q13.ann (k : Nat) : Ann := .nil
theorem Q13.body (k : Nat) : Q0W (Q13.ctx k) Tryz.f125 (Func.code Tryz.f125) (Q13.ann k) Q13.tin Q13.tout (fun x K => Q13.c k x.1 x.2.1 K) := by
 intro ρ x K; kernel_rfl
theorem Q13.sem_ok (k : Nat) : QI Tryz.prog 125 (Q13.sem k) :=
 QG (C := Q13.ctx k) (Q13.gok k) Tryz.mix (c := Func.code Tryz.f125) (ann := Q13.ann k) (tin := Q13.tin) (tout := Q13.tout) (fun x K => Q13.c k x.1 x.2.1 K) Tryz.func125 (by kernel_rfl) (by kernel_rfl) Q1.nil (Q13.body k)
abbrev QC.l1.σ : Type := Int × Int × (Nat × Nat) × Int × Int × (List Int) × (List Int) × (List Int) × Unit
abbrev QC.l1.τ : Type := (Int × (List Int) × (List Int) × (List Int) × Unit)
def QC.l1.r (k : Nat) {ρ : Type} (x : QC.l1.σ) (kn : QC.l1.σ → Option ρ) (ke : QC.l1.τ → Option ρ) : Option ρ :=
 bif (decide (x.2.2.2.2.1 < x.2.2.2.1)) then (bif (decide (((0 : Int) ≤ x.2.2.2.2.1) ∧ (x.2.2.2.2.1 < ((x.2.2.1.2 : Nat) : Int)))) then (let v4 : Int := (List.getD x.2.2.2.2.2.1 (x.2.2.1.1 + (Int.toNat x.2.2.2.2.1)) (0 : Int))
 bif (decide (((0 : Int) ≤ x.1) ∧ (x.1 < ((64 : Nat) : Int)))) then (let v5 : Int := (List.getD x.2.2.2.2.2.2.2.1 (Int.toNat x.1) (0 : Int))
 let v6 : Int := (Q2w IntKind.u32 v5 (8 : Int))
 bif (decide (((0 : Int) ≤ x.1) ∧ (x.1 < ((64 : Nat) : Int)))) then (let v7 : Int := (IntKind.wrap IntKind.i64 (x.2.2.2.2.1 + (1 : Int)))
 kn (x.1, (x.2.1, ((x.2.2.1.1, x.2.2.1.2), (x.2.2.2.1, (v7, (x.2.2.2.2.2.1, (x.2.2.2.2.2.2.1, ((List.set x.2.2.2.2.2.2.2.1 (Int.toNat x.1) (Q12 BinOp.or IntKind.u32 v6 (IntKind.wrap IntKind.u32 v4))), ()))))))))) else (none)) else (none)) else (none)) else (ke (x.2.1, (x.2.2.2.2.2.1, (x.2.2.2.2.2.2.1, (x.2.2.2.2.2.2.2.1, ())))))
def QC.l1 (k : Nat) : Nat → QC.l1.σ → Option QC.l1.τ := Q15 (QC.l1.r k)
def QC.l1.T : StT := ⟨.ptr 0 [] :: us 1 ++ .ptr 1 [] :: .ptr 2 [] :: .dat (.int .i64) :: us 7 ++ .dat (.int .i64) :: us 9 ++ .slr 0 [] :: .dat (.int .i64) :: .dat (.int .i64) :: us 58, [.dat QgX, .dat QgV, .dat QgV]⟩
def QC.l1.os : List Out := [⟨(.exit 2), [.mask [0, 2, 3, 12], .auto 1], ⟨.ptr 0 [] :: us 1 ++ .ptr 1 [] :: .ptr 2 [] :: us 8 ++ .dat (.int .i64) :: us 70, [.dat QgX, .dat QgV, .dat QgV]⟩⟩]
abbrev QC.l0.σ : Type := Int × (List Int) × (List Int) × (List Int) × Unit
abbrev QC.l0.τ : Type := QgR 
def QC.l0.r (k : Nat) {ρ : Type} (x : QC.l0.σ) (kn : QC.l0.σ → Option ρ) (ke : QC.l0.τ → Option ρ) : Option ρ :=
 bif (decide (x.1 < (16 : Int))) then (let v0 : Int := (IntKind.wrap IntKind.i64 ((4 : Int) * x.1))
 let v1 : Int := (IntKind.wrap IntKind.i64 (x.1 + (1 : Int)))
 let v2 : Int := (IntKind.wrap IntKind.i64 ((4 : Int) * v1))
 bif (decide (((0 : Int) ≤ v0) ∧ ((v0 ≤ v2) ∧ (v2 ≤ ((64 : Nat) : Int))))) then (let v3 : Int := (((Int.toNat (v2 - v0)) : Nat) : Int)
 (QC.l1 k k (x.1, (x.1, (((Int.toNat v0), (Int.toNat (v2 - v0))), (v3, ((0 : Int), (x.2.1, (x.2.2.1, (x.2.2.2.1, ()))))))))).bind fun t8 => let v9 : Int := (IntKind.wrap IntKind.i64 (t8.1 + (1 : Int)))
 kn (v9, (t8.2.1, (t8.2.2.1, (t8.2.2.2.1, ()))))) else (none)) else (ke (x.2.1, (x.2.2.1, (x.2.2.2.1, ()))))
def QC.l0 (k : Nat) : Nat → QC.l0.σ → Option QC.l0.τ := Q15 (QC.l0.r k)
def QC.l0.T : StT := ⟨.ptr 0 [] :: us 1 ++ .ptr 1 [] :: .ptr 2 [] :: us 8 ++ .dat (.int .i64) :: us 70, [.dat QgX, .dat QgV, .dat QgV]⟩
def QC.l0.os : List Out := [⟨(.exit 0), [.mask [2, 3], .auto 1], ⟨us 2 ++ .ptr 1 [] :: .ptr 2 [] :: us 79, [.dat QgX, .dat QgV, .dat QgV]⟩⟩]
abbrev QC.l2.σ : Type := Int × (List Int) × (List Int) × (List Int) × Unit
abbrev QC.l2.τ : Type := QgR 
def QC.l2.r (k : Nat) {ρ : Type} (x : QC.l2.σ) (kn : QC.l2.σ → Option ρ) (ke : QC.l2.τ → Option ρ) : Option ρ :=
 bif (decide (x.1 < (64 : Int))) then (let v11 : Int := (IntKind.wrap IntKind.i64 (x.1 - (2 : Int)))
 bif (decide (((0 : Int) ≤ v11) ∧ (v11 < ((64 : Nat) : Int)))) then (let v12 : Int := (List.getD x.2.2.2.1 (Int.toNat v11) (0 : Int))
 let v13 : Int := (IntKind.wrap IntKind.i64 (x.1 - (15 : Int)))
 bif (decide (((0 : Int) ≤ v13) ∧ (v13 < ((64 : Nat) : Int)))) then (let v14 : Int := (List.getD x.2.2.2.1 (Int.toNat v13) (0 : Int))
 (Q13 k v12 (17 : Int)).bind fun t15 => (Q13 k v12 (19 : Int)).bind fun t16 => let v17 : Int := (Q12 BinOp.xor IntKind.u32 t15.1 t16.1)
 let v18 : Int := (Q2c IntKind.u32 v12 (10 : Int))
 (Q13 k v14 (7 : Int)).bind fun t19 => (Q13 k v14 (18 : Int)).bind fun t20 => let v21 : Int := (Q12 BinOp.xor IntKind.u32 t19.1 t20.1)
 let v22 : Int := (Q2c IntKind.u32 v14 (3 : Int))
 let v23 : Int := (IntKind.wrap IntKind.i64 (x.1 - (7 : Int)))
 bif (decide (((0 : Int) ≤ v23) ∧ (v23 < ((64 : Nat) : Int)))) then (let v24 : Int := (List.getD x.2.2.2.1 (Int.toNat v23) (0 : Int))
 let v25 : Int := (IntKind.wrap IntKind.u32 ((Q12 BinOp.xor IntKind.u32 v17 v18) + v24))
 let v26 : Int := (IntKind.wrap IntKind.u32 (v25 + (Q12 BinOp.xor IntKind.u32 v21 v22)))
 let v27 : Int := (IntKind.wrap IntKind.i64 (x.1 - (16 : Int)))
 bif (decide (((0 : Int) ≤ v27) ∧ (v27 < ((64 : Nat) : Int)))) then (let v28 : Int := (List.getD x.2.2.2.1 (Int.toNat v27) (0 : Int))
 let v29 : Int := (IntKind.wrap IntKind.u32 (v26 + v28))
 bif (decide (((0 : Int) ≤ x.1) ∧ (x.1 < ((64 : Nat) : Int)))) then (let v30 : Int := (IntKind.wrap IntKind.i64 (x.1 + (1 : Int)))
 kn (v30, (x.2.1, (x.2.2.1, ((List.set x.2.2.2.1 (Int.toNat x.1) v29), ()))))) else (none)) else (none)) else (none)) else (none)) else (none)) else (ke (x.2.1, (x.2.2.1, (x.2.2.2.1, ()))))
def QC.l2 (k : Nat) : Nat → QC.l2.σ → Option QC.l2.τ := Q15 (QC.l2.r k)
def QC.l2.T : StT := ⟨us 2 ++ .ptr 1 [] :: .ptr 2 [] :: us 3 ++ .dat (.int .i64) :: us 75, [.dat QgX, .dat QgV, .dat QgV]⟩
def QC.l2.os : List Out := [⟨(.exit 4), [.mask [2, 3], .auto 1], ⟨us 2 ++ .ptr 1 [] :: .ptr 2 [] :: us 79, [.dat QgX, .dat QgV, .dat QgV]⟩⟩]
abbrev QC.τ : Type := QgT 
def QC.c (k : Nat) {ρ : Type} (b0 : (List Int)) (K : QC.τ → Option ρ) : Option ρ :=
 (QC.l0 k k ((0 : Int), (b0, ((List.replicate 64 (0 : Int)), ((List.replicate 64 (0 : Int)), ()))))).bind fun t10 => (QC.l2 k k ((16 : Int), (t10.1, (t10.2.1, (t10.2.2.1, ()))))).bind fun t31 => let v32 : (List Int) := t31.2.2.1
 K (v32, (t31.1, ()))
def QC (k : Nat) (b0 : (List Int)) : Option QC.τ := QC.c k b0 some
def QC.T : Q27 := ⟨[.ptr 0 []], [.dat QgX], 1⟩
def QC.os : List Out := [⟨.ret, [.freeze (.slot 0), .auto 1], ⟨[.dat QgV], [.dat QgX]⟩⟩]
def QC.sem (k : Nat) : QT := Q2j QC.T QC.os fun x => QC k x.1
noncomputable def QC.ctx (k : Nat) : Ctx := ⟨Tryz.prog, gam [(125, (Q13.sem k))]⟩
theorem QC.gok (k : Nat) : ∀ f, QI Tryz.prog f ((QC.ctx k).Γ f) := (Ql (Q13.sem_ok k) Q01)
theorem QC.l1.round (k : Nat) : Q14 (QC.ctx k) (QP (Func.code Tryz.f123) [1, 1, 0, 1, 0, 0, 1, 1, 0, 0, 1, 1, 0, 0]) (.nil) QC.l1.T [.mask [0, 2, 3, 4, 12, 22, 23, 24], .auto 1] QC.l1.os (QC.l1.r k) := by
 intro ρ x kn ke; kernel_rfl
theorem QC.l1.ok (k : Nat) : StOK 1 Tryz.prog (.loop (QP (Func.code Tryz.f123) [1, 1, 0, 1, 0, 0, 1, 1, 0, 0, 1, 1, 0, 0])) (Qp QC.l1.T QC.l1.os (QC.l1 k k)) :=
 Q16 (C := QC.ctx k) (QC.gok k) Tryz.mix Q1.nil (by kernel_rfl) (by kernel_rfl) (by kernel_rfl) (QC.l1.round k) k
theorem QC.l0.round (k : Nat) : Q14 (QC.ctx k) (QP (Func.code Tryz.f123) [1, 1, 0, 1, 0, 0]) (.node [] none (.nil) (.node [] none (.nil) (.node [] none (.node [] none (.node [] none (.nil) (.node [] none (.nil) (.node [] none (.node [.mask [0, 2, 3, 4, 12, 22, 23, 24], .auto 1] (some (Qp QC.l1.T QC.l1.os (QC.l1 k k))) .nil .nil) (.nil)))) (.nil)) (.nil)))) QC.l0.T [.mask [0, 2, 3, 12], .auto 1] QC.l0.os (QC.l0.r k) := by
 intro ρ x kn ke; kernel_rfl
theorem QC.l0.ok (k : Nat) : StOK 1 Tryz.prog (.loop (QP (Func.code Tryz.f123) [1, 1, 0, 1, 0, 0])) (Qp QC.l0.T QC.l0.os (QC.l0 k k)) :=
 Q16 (C := QC.ctx k) (QC.gok k) Tryz.mix (Q1.seq Q1.nil (Q1.seq Q1.nil (Q1.seq (Q1.block (Q1.seq Q1.nil (Q1.seq Q1.nil (Q1.block (Q1.loop (by kernel_rfl) (QC.l1.ok k)))))) Q1.nil))) (by kernel_rfl) (by kernel_rfl) (by kernel_rfl) (QC.l0.round k) k
theorem QC.l2.round (k : Nat) : Q14 (QC.ctx k) (QP (Func.code Tryz.f123) [1, 1, 1, 0, 1, 0, 0]) (.nil) QC.l2.T [.mask [2, 3, 7], .auto 1] QC.l2.os (QC.l2.r k) := by
 intro ρ x kn ke; kernel_rfl
theorem QC.l2.ok (k : Nat) : StOK 1 Tryz.prog (.loop (QP (Func.code Tryz.f123) [1, 1, 1, 0, 1, 0, 0])) (Qp QC.l2.T QC.l2.os (QC.l2 k k)) :=
 Q16 (C := QC.ctx k) (QC.gok k) Tryz.mix Q1.nil (by kernel_rfl) (by kernel_rfl) (by kernel_rfl) (QC.l2.round k) k
def QC.ann (k : Nat) : Ann := .node [] none (.nil) (.node [] none (.nil) (.node [] none (.node [] none (.nil) (.node [] none (.node [.mask [0, 2, 3, 12], .auto 1] (some (Qp QC.l0.T QC.l0.os (QC.l0 k k))) .nil .nil) (.nil))) (.node [] none (.node [] none (.nil) (.node [] none (.node [.mask [2, 3, 7], .auto 1] (some (Qp QC.l2.T QC.l2.os (QC.l2 k k))) .nil .nil) (.nil))) (.nil))))
theorem QC.body (k : Nat) : Q2k (QC.ctx k) Tryz.f123 (Func.code Tryz.f123) (QC.ann k) QC.T QC.os (fun x K => QC.c k x.1 K) := by
 intro ρ x K; kernel_rfl
theorem QC.sem_ok (k : Nat) : QI Tryz.prog 123 (QC.sem k) :=
 Q1G (C := QC.ctx k) (QC.gok k) Tryz.mix (c := Func.code Tryz.f123) (ann := QC.ann k) (T := QC.T) (os := QC.os) (fun x K => QC.c k x.1 K) Tryz.func123 (by kernel_rfl) (by kernel_rfl) (Q1.seq Q1.nil (Q1.seq Q1.nil (Q1.seq (Q1.seq Q1.nil (Q1.block (Q1.loop (by kernel_rfl) (QC.l0.ok k)))) (Q1.seq (Q1.seq Q1.nil (Q1.block (Q1.loop (by kernel_rfl) (QC.l2.ok k)))) Q1.nil)))) (QC.body k) (by kernel_rfl) (by kernel_rfl) (by kernel_rfl)
abbrev Q0X.τ : Type := QgZ 
def Q0X.c (k : Nat) {ρ : Type}  (K : Q0X.τ → Option ρ) : Option ρ :=
 let v0 : (List Int) := (List.set (List.set (List.set (List.set (List.set (List.set (List.set (List.set (List.set (List.set (List.set (List.set (List.set (List.set (List.set (List.set (List.set (List.set (List.set (List.set (List.set (List.set (List.set (List.set (List.set (List.set (List.set (List.set (List.set (List.set (List.set (List.set (List.set (List.set (List.set (List.set (List.set (List.set (List.set (List.set (List.set (List.set (List.set (List.set (List.set (List.set (List.set (List.set (List.set (List.set (List.set (List.set (List.set (List.set (List.set (List.set (List.set (List.set (List.set (List.set (List.set (List.set (List.set (List.set (List.replicate 64 (0 : Int)) 0 (1116352408 : Int)) 1 (1899447441 : Int)) 2 (3049323471 : Int)) 3 (3921009573 : Int)) 4 (961987163 : Int)) 5 (1508970993 : Int)) 6 (2453635748 : Int)) 7 (2870763221 : Int)) 8 (3624381080 : Int)) 9 (310598401 : Int)) 10 (607225278 : Int)) 11 (1426881987 : Int)) 12 (1925078388 : Int)) 13 (2162078206 : Int)) 14 (2614888103 : Int)) 15 (3248222580 : Int)) 16 (3835390401 : Int)) 17 (4022224774 : Int)) 18 (264347078 : Int)) 19 (604807628 : Int)) 20 (770255983 : Int)) 21 (1249150122 : Int)) 22 (1555081692 : Int)) 23 (1996064986 : Int)) 24 (2554220882 : Int)) 25 (2821834349 : Int)) 26 (2952996808 : Int)) 27 (3210313671 : Int)) 28 (3336571891 : Int)) 29 (3584528711 : Int)) 30 (113926993 : Int)) 31 (338241895 : Int)) 32 (666307205 : Int)) 33 (773529912 : Int)) 34 (1294757372 : Int)) 35 (1396182291 : Int)) 36 (1695183700 : Int)) 37 (1986661051 : Int)) 38 (2177026350 : Int)) 39 (2456956037 : Int)) 40 (2730485921 : Int)) 41 (2820302411 : Int)) 42 (3259730800 : Int)) 43 (3345764771 : Int)) 44 (3516065817 : Int)) 45 (3600352804 : Int)) 46 (4094571909 : Int)) 47 (275423344 : Int)) 48 (430227734 : Int)) 49 (506948616 : Int)) 50 (659060556 : Int)) 51 (883997877 : Int)) 52 (958139571 : Int)) 53 (1322822218 : Int)) 54 (1537002063 : Int)) 55 (1747873779 : Int)) 56 (1955562222 : Int)) 57 (2024104815 : Int)) 58 (2227730452 : Int)) 59 (2361852424 : Int)) 60 (2428436474 : Int)) 61 (2756734187 : Int)) 62 (3204031479 : Int)) 63 (3329325298 : Int))
 K (v0, ())
def Q0X (k : Nat)  : Option Q0X.τ := Q0X.c k  some
def Q0X.T : Q27 := ⟨[], [], 0⟩
def Q0X.os : List Out := [⟨.ret, [.auto 0], ⟨[.ptr 0 []], [.dat QgV]⟩⟩]
def Q0X.sem (k : Nat) : QT := Q2j Q0X.T Q0X.os fun x => Q0X k 
noncomputable def Q0X.ctx (k : Nat) : Ctx := ⟨Tryz.prog, gam []⟩
theorem Q0X.gok (k : Nat) : ∀ f, QI Tryz.prog f ((Q0X.ctx k).Γ f) := Q01
def Q0X.ann (k : Nat) : Ann := .nil
theorem Q0X.body (k : Nat) : Q2k (Q0X.ctx k) Tryz.f124 (Func.code Tryz.f124) (Q0X.ann k) Q0X.T Q0X.os (fun x K => Q0X.c k  K) := by
 intro ρ x K; kernel_rfl
theorem Q0X.sem_ok (k : Nat) : QI Tryz.prog 124 (Q0X.sem k) :=
 Q1G (C := Q0X.ctx k) (Q0X.gok k) Tryz.mix (c := Func.code Tryz.f124) (ann := Q0X.ann k) (T := Q0X.T) (os := Q0X.os) (fun x K => Q0X.c k  K) Tryz.func124 (by kernel_rfl) (by kernel_rfl) Q1.nil (Q0X.body k) (by kernel_rfl) (by kernel_rfl) (by kernel_rfl)
abbrev Q0c.l0.σ : Type := Int × (List Int) × (List Int) × (List Int) × (List Int) × (List Int) × Unit
abbrev Q0c.l0.τ : Type := QgR 
def Q0c.l0.r (k : Nat) {ρ : Type} (x : Q0c.l0.σ) (kn : Q0c.l0.σ → Option ρ) (ke : Q0c.l0.τ → Option ρ) : Option ρ :=
 bif (decide (x.1 < (64 : Int))) then (let v2 : Int := (List.getD x.2.2.2.2.2.1 0 (0 : Int))
 let v3 : Int := (List.getD x.2.2.2.2.2.1 4 (0 : Int))
 (Q13 k v3 (6 : Int)).bind fun t4 => (Q13 k v3 (11 : Int)).bind fun t5 => let v6 : Int := (Q12 BinOp.xor IntKind.u32 t4.1 t5.1)
 (Q13 k v3 (25 : Int)).bind fun t7 => let v8 : Int := (Q12 BinOp.xor IntKind.u32 v6 t7.1)
 (Q13 k v2 (2 : Int)).bind fun t9 => (Q13 k v2 (13 : Int)).bind fun t10 => let v11 : Int := (Q12 BinOp.xor IntKind.u32 t9.1 t10.1)
 (Q13 k v2 (22 : Int)).bind fun t12 => let v13 : Int := (Q12 BinOp.xor IntKind.u32 v11 t12.1)
 let v14 : Int := (List.getD x.2.2.2.2.2.1 5 (0 : Int))
 let v15 : Int := (List.getD x.2.2.2.2.2.1 6 (0 : Int))
 let v16 : Int := (Q12 BinOp.xor IntKind.u32 (Q12 BinOp.and IntKind.u32 v3 v14) (Q12 BinOp.and IntKind.u32 (notI IntKind.u32 v3) v15))
 let v17 : Int := (List.getD x.2.2.2.2.2.1 1 (0 : Int))
 let v18 : Int := (List.getD x.2.2.2.2.2.1 2 (0 : Int))
 let v19 : Int := (Q12 BinOp.xor IntKind.u32 (Q12 BinOp.and IntKind.u32 v2 v17) (Q12 BinOp.and IntKind.u32 v2 v18))
 let v20 : Int := (List.getD x.2.2.2.2.2.1 1 (0 : Int))
 let v21 : Int := (List.getD x.2.2.2.2.2.1 2 (0 : Int))
 let v22 : Int := (Q12 BinOp.xor IntKind.u32 v19 (Q12 BinOp.and IntKind.u32 v20 v21))
 let v23 : Int := (List.getD x.2.2.2.2.2.1 7 (0 : Int))
 let v24 : Int := (IntKind.wrap IntKind.u32 (v23 + v8))
 let v25 : Int := (IntKind.wrap IntKind.u32 (v24 + v16))
 bif (decide (((0 : Int) ≤ x.1) ∧ (x.1 < ((64 : Nat) : Int)))) then (let v26 : Int := (List.getD x.2.2.2.2.1 (Int.toNat x.1) (0 : Int))
 let v27 : Int := (IntKind.wrap IntKind.u32 (v25 + v26))
 bif (decide (((0 : Int) ≤ x.1) ∧ (x.1 < ((64 : Nat) : Int)))) then (let v28 : Int := (List.getD x.2.2.2.1 (Int.toNat x.1) (0 : Int))
 let v29 : Int := (IntKind.wrap IntKind.u32 (v27 + v28))
 let v30 : Int := (IntKind.wrap IntKind.u32 (v29 + v13))
 let v31 : Int := (IntKind.wrap IntKind.u32 (v30 + v22))
 let v32 : Int := (List.getD x.2.2.2.2.2.1 0 (0 : Int))
 let v33 : Int := (List.getD x.2.2.2.2.2.1 1 (0 : Int))
 let v34 : Int := (List.getD x.2.2.2.2.2.1 2 (0 : Int))
 let v35 : Int := (List.getD x.2.2.2.2.2.1 3 (0 : Int))
 let v36 : Int := (IntKind.wrap IntKind.u32 (v35 + v29))
 let v37 : Int := (List.getD x.2.2.2.2.2.1 4 (0 : Int))
 let v38 : Int := (List.getD x.2.2.2.2.2.1 5 (0 : Int))
 let v39 : Int := (List.getD x.2.2.2.2.2.1 6 (0 : Int))
 let v40 : (List Int) := (List.set (List.set (List.set (List.set (List.set (List.set (List.set (List.set (List.replicate 8 (0 : Int)) 0 v31) 1 v32) 2 v33) 3 v34) 4 v36) 5 v37) 6 v38) 7 v39)
 let v41 : Int := (IntKind.wrap IntKind.i64 (x.1 + (1 : Int)))
 kn (v41, (x.2.1, (x.2.2.1, (x.2.2.2.1, (x.2.2.2.2.1, (v40, ()))))))) else (none)) else (none)) else (ke (x.2.1, (x.2.2.1, (x.2.2.2.2.2.1, ()))))
def Q0c.l0 (k : Nat) : Nat → Q0c.l0.σ → Option Q0c.l0.τ := Q15 (Q0c.l0.r k)
def Q0c.l0.T : StT := ⟨us 2 ++ .ptr 0 [] :: us 1 ++ .ptr 1 [] :: .ptr 2 [] :: .ptr 3 [] :: .ptr 4 [] :: us 12 ++ .dat (.int .i64) :: us 99, [.dat QgW, .dat QgW, .dat QgV, .dat QgV, .dat QgW]⟩
def Q0c.l0.os : List Out := [⟨(.exit 0), [.mask [2, 4, 7], .auto 0], ⟨us 2 ++ .ptr 0 [] :: us 1 ++ .ptr 1 [] :: us 2 ++ .ptr 2 [] :: us 112, [.dat QgW, .dat QgW, .dat QgW]⟩⟩]
abbrev Q0c.l1.σ : Type := Int × (List Int) × (List Int) × (List Int) × Unit
abbrev Q0c.l1.τ : Type := QgT 
def Q0c.l1.r (k : Nat) {ρ : Type} (x : Q0c.l1.σ) (kn : Q0c.l1.σ → Option ρ) (ke : Q0c.l1.τ → Option ρ) : Option ρ :=
 bif (decide (x.1 < (8 : Int))) then (bif (decide (((0 : Int) ≤ x.1) ∧ (x.1 < ((8 : Nat) : Int)))) then (let v43 : Int := (List.getD x.2.2.2.1 (Int.toNat x.1) (0 : Int))
 bif (decide (((0 : Int) ≤ x.1) ∧ (x.1 < ((8 : Nat) : Int)))) then (let v44 : Int := (List.getD x.2.1 (Int.toNat x.1) (0 : Int))
 let v45 : Int := (IntKind.wrap IntKind.u32 (v43 + v44))
 bif (decide (((0 : Int) ≤ x.1) ∧ (x.1 < ((8 : Nat) : Int)))) then (let v46 : Int := (IntKind.wrap IntKind.i64 (x.1 + (1 : Int)))
 kn (v46, (x.2.1, (x.2.2.1, ((List.set x.2.2.2.1 (Int.toNat x.1) v45), ()))))) else (none)) else (none)) else (none)) else (ke (x.2.2.1, (x.2.2.2.1, ())))
def Q0c.l1 (k : Nat) : Nat → Q0c.l1.σ → Option Q0c.l1.τ := Q15 (Q0c.l1.r k)
def Q0c.l1.T : StT := ⟨us 2 ++ .ptr 0 [] :: us 1 ++ .ptr 1 [] :: us 2 ++ .ptr 2 [] :: us 99 ++ .dat (.int .i64) :: us 12, [.dat QgW, .dat QgW, .dat QgW]⟩
def Q0c.l1.os : List Out := [⟨(.exit 2), [.mask [4, 7], .auto 0], ⟨us 4 ++ .ptr 0 [] :: us 2 ++ .ptr 1 [] :: us 112, [.dat QgW, .dat QgW]⟩⟩]
def Q0c.c (k : Nat) {ρ : Type} (x_0 : (List Int)) (block : (List Int)) (K : (List Int) × Unit → Option ρ) : Option ρ :=
 (QC k block).bind fun t0 => (Q0X k ).bind fun t1 => (Q0c.l0 k k ((0 : Int), (x_0, ((List.replicate 8 (0 : Int)), (t0.1, (t1.1, (x_0, ()))))))).bind fun t42 => (Q0c.l1 k k ((0 : Int), (t42.1, (t42.2.1, (t42.2.2.1, ()))))).bind fun t47 => let v48 : (List Int) := t47.2.1
 K (v48, ())
def Q0c (k : Nat) (x_0 : (List Int)) (block : (List Int)) : Option QgZ := Q0c.c k x_0 block some
def Q0c.tin : List Ty := [QgW, QgX]
def Q0c.tout : List Ty := [QgW]
def Q0c.sem (k : Nat) : QT := Q00 Q0c.tin Q0c.tout fun x => Q0c k x.1 x.2.1
noncomputable def Q0c.ctx (k : Nat) : Ctx := ⟨Tryz.prog, gam [(123, (QC.sem k)), (124, (Q0X.sem k)), (125, (Q13.sem k))]⟩
theorem Q0c.gok (k : Nat) : ∀ f, QI Tryz.prog f ((Q0c.ctx k).Γ f) := (Ql (QC.sem_ok k) (Ql (Q0X.sem_ok k) (Ql (Q13.sem_ok k) Q01)))
theorem Q0c.l0.round (k : Nat) : Q14 (Q0c.ctx k) (QP (Func.code Tryz.f112) [1, 1, 1, 0, 1, 0, 0]) (.nil) Q0c.l0.T [.mask [2, 4, 5, 6, 7, 20], .auto 0] Q0c.l0.os (Q0c.l0.r k) := by
 intro ρ x kn ke; kernel_rfl
theorem Q0c.l0.ok (k : Nat) : StOK 0 Tryz.prog (.loop (QP (Func.code Tryz.f112) [1, 1, 1, 0, 1, 0, 0])) (Qp Q0c.l0.T Q0c.l0.os (Q0c.l0 k k)) :=
 Q16 (C := Q0c.ctx k) (Q0c.gok k) Tryz.mix Q1.nil (by kernel_rfl) (by kernel_rfl) (by kernel_rfl) (Q0c.l0.round k) k
theorem Q0c.l1.round (k : Nat) : Q14 (Q0c.ctx k) (QP (Func.code Tryz.f112) [1, 1, 1, 1, 0, 1, 0, 0]) (.nil) Q0c.l1.T [.mask [2, 4, 7, 107], .auto 0] Q0c.l1.os (Q0c.l1.r k) := by
 intro ρ x kn ke; kernel_rfl
theorem Q0c.l1.ok (k : Nat) : StOK 0 Tryz.prog (.loop (QP (Func.code Tryz.f112) [1, 1, 1, 1, 0, 1, 0, 0])) (Qp Q0c.l1.T Q0c.l1.os (Q0c.l1 k k)) :=
 Q16 (C := Q0c.ctx k) (Q0c.gok k) Tryz.mix Q1.nil (by kernel_rfl) (by kernel_rfl) (by kernel_rfl) (Q0c.l1.round k) k
def Q0c.ann (k : Nat) : Ann := .node [] none (.nil) (.node [] none (.nil) (.node [] none (.nil) (.node [] none (.node [] none (.nil) (.node [] none (.node [.mask [2, 4, 5, 6, 7, 20], .auto 0] (some (Qp Q0c.l0.T Q0c.l0.os (Q0c.l0 k k))) .nil .nil) (.nil))) (.node [] none (.node [] none (.nil) (.node [] none (.node [.mask [2, 4, 7, 107], .auto 0] (some (Qp Q0c.l1.T Q0c.l1.os (Q0c.l1 k k))) .nil .nil) (.nil))) (.nil)))))
theorem Q0c.body (k : Nat) : Q0W (Q0c.ctx k) Tryz.f112 (Func.code Tryz.f112) (Q0c.ann k) Q0c.tin Q0c.tout (fun x K => Q0c.c k x.1 x.2.1 K) := by
 intro ρ x K; kernel_rfl
theorem Q0c.sem_ok (k : Nat) : QI Tryz.prog 112 (Q0c.sem k) :=
 QG (C := Q0c.ctx k) (Q0c.gok k) Tryz.mix (c := Func.code Tryz.f112) (ann := Q0c.ann k) (tin := Q0c.tin) (tout := Q0c.tout) (fun x K => Q0c.c k x.1 x.2.1 K) Tryz.func112 (by kernel_rfl) (by kernel_rfl) (Q1.seq Q1.nil (Q1.seq Q1.nil (Q1.seq Q1.nil (Q1.seq (Q1.seq Q1.nil (Q1.block (Q1.loop (by kernel_rfl) (Q0c.l0.ok k)))) (Q1.seq (Q1.seq Q1.nil (Q1.block (Q1.loop (by kernel_rfl) (Q0c.l1.ok k)))) Q1.nil))))) (Q0c.body k)
abbrev Qz.l0.σ : Type := QgS × (List Int) × Unit
abbrev Qz.l0.τ : Type := QgQ 
def Qz.l0.r (k : Nat) {ρ : Type} (x : Qz.l0.σ) (kn : Qz.l0.σ → Option ρ) (ke : Qz.l0.τ → Option ρ) : Option ρ :=
 let v2 : Int := (((List.length x.2.1) : Nat) : Int)
 bif (decide (v2 ≥ (64 : Int))) then (let v3 : (List Int) := x.1.1
 bif (decide (64 ≤ (List.length x.2.1))) then (let v4 : (List Int) := (List.take 64 (List.drop 0 x.2.1))
 (Q0c k v3 v4).bind fun t5 => bif (decide (((0 : Int) ≤ (64 : Int)) ∧ (((64 : Int) ≤ (((List.length x.2.1) : Nat) : Int)) ∧ ((((List.length x.2.1) : Nat) : Int) ≤ (((List.length x.2.1) : Nat) : Int))))) then (kn ((t5.1, ((), (x.1.2.2.1, ()))), ((List.take (Int.toNat ((((List.length x.2.1) : Nat) : Int) - (64 : Int))) (List.drop 64 x.2.1)), ()))) else (none)) else (none)) else (ke ((x.1.1, ((), (x.1.2.2.1, ()))), (x.2.1, ())))
def Qz.l0 (k : Nat) : Nat → Qz.l0.σ → Option Qz.l0.τ := Q15 (Qz.l0.r k)
def Qz.l0.T : StT := ⟨.ptr 0 [] :: us 52, [.pair (.dat QgW) (.pair (.vsl 1) (.dat QgU)), .vec (.int .u8)]⟩
def Qz.l0.os : List Out := [⟨(.exit 0), [.mask [], .auto 1], ⟨us 53, [.pair (.dat QgW) (.pair (.vsl 1) (.dat QgU)), .vec (.int .u8)]⟩⟩]
abbrev Qz.τ : Type := QgQ 
def Qz.c (k : Nat) {ρ : Type} (s : ByteArray) (b0 : QgS) (K : Qz.τ → Option ρ) : Option ρ :=
 let v0 : Int := b0.2.2.1
 let v1 : Int := (IntKind.wrap IntKind.u64 (v0 + (IntKind.wrap IntKind.u64 (((ByteArray.size s) : Nat) : Int))))
 bif (Nat.ble ((List.length (Qq s)) * 1) 140737488355328) then ((Qz.l0 k k ((b0.1, ((), (v1, ()))), ((Qq s), ()))).bind fun t6 => K ((t6.1.1, ((), (t6.1.2.2.1, ()))), (t6.2.1, ()))) else (none)
def Qz (k : Nat) (s : ByteArray) (b0 : QgS) : Option Qz.τ := Qz.c k s b0 some
def Qz.T : Q27 := ⟨[.ptr 0 [], .dat .str], [.pair (.dat QgW) (.pair (.nils) (.dat QgU))], 1⟩
def Qz.os : List Out := [⟨.ret, [.auto 1], ⟨[], [.pair (.dat QgW) (.pair (.vsl 1) (.dat QgU)), .vec (.int .u8)]⟩⟩]
def Qz.sem (k : Nat) : QT := Q2j Qz.T Qz.os fun x => Qz k x.1 x.2.1
noncomputable def Qz.ctx (k : Nat) : Ctx := ⟨Tryz.prog, gam [(112, (Q0c.sem k))]⟩
theorem Qz.gok (k : Nat) : ∀ f, QI Tryz.prog f ((Qz.ctx k).Γ f) := (Ql (Q0c.sem_ok k) Q01)
theorem Qz.l0.round (k : Nat) : Q14 (Qz.ctx k) (QP (Func.code Tryz.f92) [1, 1, 1, 0, 0]) (.nil) Qz.l0.T [.mask [0], .auto 1] Qz.l0.os (Qz.l0.r k) := by
 intro ρ x kn ke; kernel_rfl
theorem Qz.l0.ok (k : Nat) : StOK 1 Tryz.prog (.loop (QP (Func.code Tryz.f92) [1, 1, 1, 0, 0])) (Qp Qz.l0.T Qz.l0.os (Qz.l0 k k)) :=
 Q16 (C := Qz.ctx k) (Qz.gok k) Tryz.mix Q1.nil (by kernel_rfl) (by kernel_rfl) (by kernel_rfl) (Qz.l0.round k) k
def Qz.ann (k : Nat) : Ann := .node [] none (.nil) (.node [] none (.nil) (.node [] none (.nil) (.node [] none (.node [.mask [0], .auto 1] (some (Qp Qz.l0.T Qz.l0.os (Qz.l0 k k))) .nil .nil) (.nil))))
theorem Qz.body (k : Nat) : Q2k (Qz.ctx k) Tryz.f92 (Func.code Tryz.f92) (Qz.ann k) Qz.T Qz.os (fun x K => Qz.c k x.1 x.2.1 K) := by
 intro ρ x K; kernel_rfl
theorem Qz.sem_ok (k : Nat) : QI Tryz.prog 92 (Qz.sem k) :=
 Q1G (C := Qz.ctx k) (Qz.gok k) Tryz.mix (c := Func.code Tryz.f92) (ann := Qz.ann k) (T := Qz.T) (os := Qz.os) (fun x K => Qz.c k x.1 x.2.1 K) Tryz.func92 (by kernel_rfl) (by kernel_rfl) (Q1.seq Q1.nil (Q1.seq Q1.nil (Q1.seq Q1.nil (Q1.block (Q1.loop (by kernel_rfl) (Qz.l0.ok k)))))) (Qz.body k) (by kernel_rfl) (by kernel_rfl) (by kernel_rfl)
abbrev Q0t.τ : Type := (QgS × (List Int) × QgS × (List Int) × Unit)
def Q0t.c (k : Nat) {ρ : Type} (b0 : QgS) (b1 : (List Int)) (K : Q0t.τ → Option ρ) : Option ρ :=
 let v0 : (List Int) := b0.1
 bif (Nat.ble ((List.length b1) * 1) 140737488355328) then (let v1 : Int := b0.2.2.1
 K ((b0.1, ((), (b0.2.2.1, ()))), (b1, ((v0, ((), (v1, ()))), (b1, ()))))) else (none)
def Q0t (k : Nat) (b0 : QgS) (b1 : (List Int)) : Option Q0t.τ := Q0t.c k b0 b1 some
def Q0t.T : Q27 := ⟨[.ptr 0 []], [.pair (.dat QgW) (.pair (.vsl 1) (.dat QgU)), .vec (.int .u8)], 1⟩
def Q0t.os : List Out := [⟨.ret, [.auto 1], ⟨[.ptr 2 []], [.pair (.dat QgW) (.pair (.vsl 1) (.dat QgU)), .vec (.int .u8), .pair (.dat QgW) (.pair (.vsl 3) (.dat QgU)), .vec (.int .u8)]⟩⟩]
def Q0t.sem (k : Nat) : QT := Q2j Q0t.T Q0t.os fun x => Q0t k x.1 x.2.1
noncomputable def Q0t.ctx (k : Nat) : Ctx := ⟨Tryz.prog, gam []⟩
theorem Q0t.gok (k : Nat) : ∀ f, QI Tryz.prog f ((Q0t.ctx k).Γ f) := Q01
def Q0t.ann (k : Nat) : Ann := .nil
theorem Q0t.body (k : Nat) : Q2k (Q0t.ctx k) Tryz.f113 (Func.code Tryz.f113) (Q0t.ann k) Q0t.T Q0t.os (fun x K => Q0t.c k x.1 x.2.1 K) := by
 intro ρ x K; kernel_rfl
theorem Q0t.sem_ok (k : Nat) : QI Tryz.prog 113 (Q0t.sem k) :=
 Q1G (C := Q0t.ctx k) (Q0t.gok k) Tryz.mix (c := Func.code Tryz.f113) (ann := Q0t.ann k) (T := Q0t.T) (os := Q0t.os) (fun x K => Q0t.c k x.1 x.2.1 K) Tryz.func113 (by kernel_rfl) (by kernel_rfl) Q1.nil (Q0t.body k) (by kernel_rfl) (by kernel_rfl) (by kernel_rfl)
abbrev Q18.l0.σ : Type := Int × Int × (List Int) × Unit
abbrev Q18.l0.τ : Type := QgZ 
def Q18.l0.r (k : Nat) {ρ : Type} (x : Q18.l0.σ) (kn : Q18.l0.σ → Option ρ) (ke : Q18.l0.τ → Option ρ) : Option ρ :=
 bif (decide (x.2.1 < (8 : Int))) then (let v5 : Int := (Q2w IntKind.u64 x.1 (3 : Int))
 let v6 : Int := (IntKind.wrap IntKind.i64 ((7 : Int) - x.2.1))
 let v7 : Int := (IntKind.wrap IntKind.i64 ((8 : Int) * v6))
 bif (decide ((0 : Int) ≤ v7)) then (bif (Nat.ble (((List.length x.2.2.1) + (List.length (List.set (List.replicate 1 (0 : Int)) 0 (IntKind.wrap IntKind.u8 (Q2c IntKind.u64 v5 v7))))) * 1) 140737488355328) then (let v8 : Int := (IntKind.wrap IntKind.i64 (x.2.1 + (1 : Int)))
 kn (x.1, (v8, ((x.2.2.1 ++ (List.set (List.replicate 1 (0 : Int)) 0 (IntKind.wrap IntKind.u8 (Q2c IntKind.u64 v5 v7)))), ())))) else (none)) else (none)) else (ke (x.2.2.1, ()))
def Q18.l0 (k : Nat) : Nat → Q18.l0.σ → Option Q18.l0.τ := Q15 (Q18.l0.r k)
def Q18.l0.T : StT := ⟨.dat (.int .u64) :: us 3 ++ .vsl 0 :: us 14 ++ .dat (.int .i64) :: us 15, [.vec (.int .u8)]⟩
def Q18.l0.os : List Out := [⟨(.exit 0), [.mask [4], .auto 0], ⟨us 4 ++ .vsl 0 :: us 30, [.vec (.int .u8)]⟩⟩]
def Q18.c (k : Nat) {ρ : Type} (n : Int) (K : ByteArray × Unit → Option ρ) : Option ρ :=
 let v0 : Int := (IntKind.wrap IntKind.i64 (Int.tmod n (64 : Int)))
 let v1 : Int := (IntKind.wrap IntKind.i64 ((119 : Int) - v0))
 let v2 : Int := (IntKind.wrap IntKind.i64 ((1 : Int) + (Int.tmod v1 (64 : Int))))
 let v3 : Int := (IntKind.wrap IntKind.i64 ((1 : Int) + (Int.tmod v1 (64 : Int))))
 let v4 : Int := (IntKind.wrap IntKind.i64 (v3 + (8 : Int)))
 bif ((decide (((0 : Int) ≤ v2) ∧ (v2 ≤ v4))) && (Nat.ble ((Int.toNat v4) * 1) 140737488355328)) then (bif (decide (((0 : Int) ≤ (0 : Int)) ∧ ((0 : Int) < (((List.length (List.replicate (Int.toNat v2) (0 : Int))) : Nat) : Int)))) then ((Q18.l0 k k (n, ((0 : Int), ((List.set (List.replicate (Int.toNat v2) (0 : Int)) 0 (128 : Int)), ())))).bind fun t9 => K ((bytesOf t9.1), ())) else (none)) else (none)
def Q18 (k : Nat) (n : Int) : Option (ByteArray × Unit) := Q18.c k n some
def Q18.tin : List Ty := [(.int .u64)]
def Q18.tout : List Ty := [.str]
def Q18.sem (k : Nat) : QT := Q00 Q18.tin Q18.tout fun x => Q18 k x.1
noncomputable def Q18.ctx (k : Nat) : Ctx := ⟨Tryz.prog, gam []⟩
theorem Q18.gok (k : Nat) : ∀ f, QI Tryz.prog f ((Q18.ctx k).Γ f) := Q01
theorem Q18.l0.round (k : Nat) : Q14 (Q18.ctx k) (QP (Func.code Tryz.f114) [1, 1, 1, 1, 0, 1, 0, 0]) (.nil) Q18.l0.T [.mask [0, 4, 19], .auto 0] Q18.l0.os (Q18.l0.r k) := by
 intro ρ x kn ke; kernel_rfl
theorem Q18.l0.ok (k : Nat) : StOK 0 Tryz.prog (.loop (QP (Func.code Tryz.f114) [1, 1, 1, 1, 0, 1, 0, 0])) (Qp Q18.l0.T Q18.l0.os (Q18.l0 k k)) :=
 Q16 (C := Q18.ctx k) (Q18.gok k) Tryz.mix Q1.nil (by kernel_rfl) (by kernel_rfl) (by kernel_rfl) (Q18.l0.round k) k
def Q18.ann (k : Nat) : Ann := .node [] none (.nil) (.node [] none (.nil) (.node [] none (.nil) (.node [] none (.nil) (.node [] none (.node [] none (.nil) (.node [] none (.node [.mask [0, 4, 19], .auto 0] (some (Qp Q18.l0.T Q18.l0.os (Q18.l0 k k))) .nil .nil) (.nil))) (.nil)))))
theorem Q18.body (k : Nat) : Q0W (Q18.ctx k) Tryz.f114 (Func.code Tryz.f114) (Q18.ann k) Q18.tin Q18.tout (fun x K => Q18.c k x.1 K) := by
 intro ρ x K; kernel_rfl
theorem Q18.sem_ok (k : Nat) : QI Tryz.prog 114 (Q18.sem k) :=
 QG (C := Q18.ctx k) (Q18.gok k) Tryz.mix (c := Func.code Tryz.f114) (ann := Q18.ann k) (tin := Q18.tin) (tout := Q18.tout) (fun x K => Q18.c k x.1 K) Tryz.func114 (by kernel_rfl) (by kernel_rfl) (Q1.seq Q1.nil (Q1.seq Q1.nil (Q1.seq Q1.nil (Q1.seq Q1.nil (Q1.seq (Q1.seq Q1.nil (Q1.block (Q1.loop (by kernel_rfl) (Q18.l0.ok k)))) Q1.nil))))) (Q18.body k)
abbrev Qr.l0.σ : Type := QgS × (List Int) × Unit
abbrev Qr.l0.τ : Type := QgQ 
def Qr.l0.r (k : Nat) {ρ : Type} (x : Qr.l0.σ) (kn : Qr.l0.σ → Option ρ) (ke : Qr.l0.τ → Option ρ) : Option ρ :=
 let v2 : Int := (((List.length x.2.1) : Nat) : Int)
 bif (decide (v2 ≥ (64 : Int))) then (let v3 : (List Int) := x.1.1
 bif (decide (64 ≤ (List.length x.2.1))) then (let v4 : (List Int) := (List.take 64 (List.drop 0 x.2.1))
 (Q0c k v3 v4).bind fun t5 => bif (decide (((0 : Int) ≤ (64 : Int)) ∧ (((64 : Int) ≤ (((List.length x.2.1) : Nat) : Int)) ∧ ((((List.length x.2.1) : Nat) : Int) ≤ (((List.length x.2.1) : Nat) : Int))))) then (kn ((t5.1, ((), (x.1.2.2.1, ()))), ((List.take (Int.toNat ((((List.length x.2.1) : Nat) : Int) - (64 : Int))) (List.drop 64 x.2.1)), ()))) else (none)) else (none)) else (ke ((x.1.1, ((), (x.1.2.2.1, ()))), (x.2.1, ())))
def Qr.l0 (k : Nat) : Nat → Qr.l0.σ → Option Qr.l0.τ := Q15 (Qr.l0.r k)
def Qr.l0.T : StT := ⟨.ptr 0 [] :: us 52, [.pair (.dat QgW) (.pair (.vsl 1) (.dat QgU)), .vec (.int .u8)]⟩
def Qr.l0.os : List Out := [⟨(.exit 0), [.mask [], .auto 1], ⟨us 53, [.pair (.dat QgW) (.pair (.vsl 1) (.dat QgU)), .vec (.int .u8)]⟩⟩]
abbrev Qr.τ : Type := QgQ 
def Qr.c (k : Nat) {ρ : Type} (s : ByteArray) (b0 : QgS) (b1 : (List Int)) (K : Qr.τ → Option ρ) : Option ρ :=
 let v0 : Int := b0.2.2.1
 let v1 : Int := (IntKind.wrap IntKind.u64 (v0 + (IntKind.wrap IntKind.u64 (((ByteArray.size s) : Nat) : Int))))
 bif (Nat.ble (((List.length b1) + (List.length (Qq s))) * 1) 140737488355328) then ((Qr.l0 k k ((b0.1, ((), (v1, ()))), ((b1 ++ (Qq s)), ()))).bind fun t6 => K ((t6.1.1, ((), (t6.1.2.2.1, ()))), (t6.2.1, ()))) else (none)
def Qr (k : Nat) (s : ByteArray) (b0 : QgS) (b1 : (List Int)) : Option Qr.τ := Qr.c k s b0 b1 some
def Qr.T : Q27 := ⟨[.ptr 0 [], .dat .str], [.pair (.dat QgW) (.pair (.vsl 1) (.dat QgU)), .vec (.int .u8)], 1⟩
def Qr.os : List Out := [⟨.ret, [.auto 1], ⟨[], [.pair (.dat QgW) (.pair (.vsl 1) (.dat QgU)), .vec (.int .u8)]⟩⟩]
def Qr.sem (k : Nat) : QT := Q2j Qr.T Qr.os fun x => Qr k x.1 x.2.1 x.2.2.1
noncomputable def Qr.ctx (k : Nat) : Ctx := ⟨Tryz.prog, gam [(112, (Q0c.sem k))]⟩
theorem Qr.gok (k : Nat) : ∀ f, QI Tryz.prog f ((Qr.ctx k).Γ f) := (Ql (Q0c.sem_ok k) Q01)
theorem Qr.l0.round (k : Nat) : Q14 (Qr.ctx k) (QP (Func.code Tryz.f92) [1, 1, 1, 0, 0]) (.nil) Qr.l0.T [.mask [0], .auto 1] Qr.l0.os (Qr.l0.r k) := by
 intro ρ x kn ke; kernel_rfl
theorem Qr.l0.ok (k : Nat) : StOK 1 Tryz.prog (.loop (QP (Func.code Tryz.f92) [1, 1, 1, 0, 0])) (Qp Qr.l0.T Qr.l0.os (Qr.l0 k k)) :=
 Q16 (C := Qr.ctx k) (Qr.gok k) Tryz.mix Q1.nil (by kernel_rfl) (by kernel_rfl) (by kernel_rfl) (Qr.l0.round k) k
def Qr.ann (k : Nat) : Ann := .node [] none (.nil) (.node [] none (.nil) (.node [] none (.nil) (.node [] none (.node [.mask [0], .auto 1] (some (Qp Qr.l0.T Qr.l0.os (Qr.l0 k k))) .nil .nil) (.nil))))
theorem Qr.body (k : Nat) : Q2k (Qr.ctx k) Tryz.f92 (Func.code Tryz.f92) (Qr.ann k) Qr.T Qr.os (fun x K => Qr.c k x.1 x.2.1 x.2.2.1 K) := by
 intro ρ x K; kernel_rfl
theorem Qr.sem_ok (k : Nat) : QI Tryz.prog 92 (Qr.sem k) :=
 Q1G (C := Qr.ctx k) (Qr.gok k) Tryz.mix (c := Func.code Tryz.f92) (ann := Qr.ann k) (T := Qr.T) (os := Qr.os) (fun x K => Qr.c k x.1 x.2.1 x.2.2.1 K) Tryz.func92 (by kernel_rfl) (by kernel_rfl) (Q1.seq Q1.nil (Q1.seq Q1.nil (Q1.seq Q1.nil (Q1.block (Q1.loop (by kernel_rfl) (Qr.l0.ok k)))))) (Qr.body k) (by kernel_rfl) (by kernel_rfl) (by kernel_rfl)
abbrev Qk.l1.σ : Type := Int × Int × (List Int) × Int × Int × QgS × (List Int) × (List Int) × (List Int) × Unit
abbrev Qk.l1.τ : Type := ((List Int) × Int × QgS × (List Int) × (List Int) × (List Int) × Unit)
def Qk.l1.r (k : Nat) {ρ : Type} (x : Qk.l1.σ) (kn : Qk.l1.σ → Option ρ) (ke : Qk.l1.τ → Option ρ) : Option ρ :=
 bif (decide (x.2.2.2.2.1 < (4 : Int))) then (let v6 : Int := (IntKind.wrap IntKind.i64 ((4 : Int) * x.1))
 let v7 : Int := (IntKind.wrap IntKind.i64 (v6 + x.2.2.2.2.1))
 let v8 : Int := (IntKind.wrap IntKind.i64 ((3 : Int) - x.2.2.2.2.1))
 let v9 : Int := (IntKind.wrap IntKind.i64 ((8 : Int) * v8))
 bif (decide ((0 : Int) ≤ v9)) then (let v10 : Int := (Q2c IntKind.u32 x.2.1 v9)
 bif (decide (((0 : Int) ≤ v7) ∧ (v7 < ((32 : Nat) : Int)))) then (let v11 : Int := (IntKind.wrap IntKind.i64 (x.2.2.2.2.1 + (1 : Int)))
 kn (x.1, (x.2.1, (x.2.2.1, (x.2.2.2.1, (v11, ((x.2.2.2.2.2.1.1, ((), (x.2.2.2.2.2.1.2.2.1, ()))), (x.2.2.2.2.2.2.1, (x.2.2.2.2.2.2.2.1, ((List.set x.2.2.2.2.2.2.2.2.1 (Int.toNat v7) (IntKind.wrap IntKind.u8 v10)), ())))))))))) else (none)) else (none)) else (ke (x.2.2.1, (x.2.2.2.1, ((x.2.2.2.2.2.1.1, ((), (x.2.2.2.2.2.1.2.2.1, ()))), (x.2.2.2.2.2.2.1, (x.2.2.2.2.2.2.2.1, (x.2.2.2.2.2.2.2.2.1, ())))))))
def Qk.l1 (k : Nat) : Nat → Qk.l1.σ → Option Qk.l1.τ := Q15 (Qk.l1.r k)
def Qk.l1.T : StT := ⟨us 2 ++ .ptr 2 [] :: us 1 ++ .ptr 3 [] :: .dat (.int .i64) :: .dat (.int .u32) :: us 17 ++ .dat QgW :: .dat (.int .i64) :: us 3 ++ .dat (.int .i64) :: us 16, [.pair (.dat QgW) (.pair (.vsl 1) (.dat QgU)), .vec (.int .u8), .dat QgY, .dat QgY]⟩
def Qk.l1.os : List Out := [⟨(.exit 2), [.mask [2, 4, 24, 25], .auto 1], ⟨us 2 ++ .ptr 2 [] :: us 1 ++ .ptr 3 [] :: us 19 ++ .dat QgW :: .dat (.int .i64) :: us 20, [.pair (.dat QgW) (.pair (.vsl 1) (.dat QgU)), .vec (.int .u8), .dat QgY, .dat QgY]⟩⟩]
abbrev Qk.l0.σ : Type := (List Int) × Int × QgS × (List Int) × (List Int) × (List Int) × Unit
abbrev Qk.l0.τ : Type := (QgS × (List Int) × (List Int) × (List Int) × Unit)
def Qk.l0.r (k : Nat) {ρ : Type} (x : Qk.l0.σ) (kn : Qk.l0.σ → Option ρ) (ke : Qk.l0.τ → Option ρ) : Option ρ :=
 bif (decide (x.2.1 < (8 : Int))) then (bif (decide (((0 : Int) ≤ x.2.1) ∧ (x.2.1 < ((8 : Nat) : Int)))) then (let v5 : Int := (List.getD x.1 (Int.toNat x.2.1) (0 : Int))
 (Qk.l1 k k (x.2.1, (v5, (x.1, (x.2.1, ((0 : Int), ((x.2.2.1.1, ((), (x.2.2.1.2.2.1, ()))), (x.2.2.2.1, (x.2.2.2.2.1, (x.2.2.2.2.2.1, ())))))))))).bind fun t12 => let v13 : Int := (IntKind.wrap IntKind.i64 (t12.2.1 + (1 : Int)))
 kn (t12.1, (v13, ((t12.2.2.1.1, ((), (t12.2.2.1.2.2.1, ()))), (t12.2.2.2.1, (t12.2.2.2.2.1, (t12.2.2.2.2.2.1, ()))))))) else (none)) else (ke ((x.2.2.1.1, ((), (x.2.2.1.2.2.1, ()))), (x.2.2.2.1, (x.2.2.2.2.1, (x.2.2.2.2.2.1, ())))))
def Qk.l0 (k : Nat) : Nat → Qk.l0.σ → Option Qk.l0.τ := Q15 (Qk.l0.r k)
def Qk.l0.T : StT := ⟨us 2 ++ .ptr 2 [] :: us 1 ++ .ptr 3 [] :: us 19 ++ .dat QgW :: .dat (.int .i64) :: us 20, [.pair (.dat QgW) (.pair (.vsl 1) (.dat QgU)), .vec (.int .u8), .dat QgY, .dat QgY]⟩
def Qk.l0.os : List Out := [⟨(.exit 0), [.mask [2, 4], .auto 1], ⟨us 2 ++ .ptr 2 [] :: us 1 ++ .ptr 3 [] :: us 41, [.pair (.dat QgW) (.pair (.vsl 1) (.dat QgU)), .vec (.int .u8), .dat QgY, .dat QgY]⟩⟩]
abbrev Qk.τ : Type := ((List Int) × QgS × (List Int) × Unit)
def Qk.c (k : Nat) {ρ : Type} (b0 : QgS) (b1 : (List Int)) (K : Qk.τ → Option ρ) : Option ρ :=
 (Q0t k (b0.1, ((), (b0.2.2.1, ()))) b1).bind fun t0 => let v1 : Int := t0.1.2.2.1
 (Q18 k v1).bind fun t2 => (Qr k t2.1 (t0.2.2.1.1, ((), (t0.2.2.1.2.2.1, ()))) t0.2.2.2.1).bind fun t3 => let v4 : (List Int) := t3.1.1
 (Qk.l0 k k (v4, ((0 : Int), ((t0.1.1, ((), (t0.1.2.2.1, ()))), (t0.2.1, ((List.replicate 32 (0 : Int)), ((List.replicate 32 (0 : Int)), ()))))))).bind fun t14 => let v15 : (List Int) := t14.2.2.2.1
 K (v15, ((t14.1.1, ((), (t14.1.2.2.1, ()))), (t14.2.1, ())))
def Qk (k : Nat) (b0 : QgS) (b1 : (List Int)) : Option Qk.τ := Qk.c k b0 b1 some
def Qk.T : Q27 := ⟨[.ptr 0 []], [.pair (.dat QgW) (.pair (.vsl 1) (.dat QgU)), .vec (.int .u8)], 1⟩
def Qk.os : List Out := [⟨.ret, [.freeze (.slot 0), .auto 1], ⟨[.dat QgY], [.pair (.dat QgW) (.pair (.vsl 1) (.dat QgU)), .vec (.int .u8)]⟩⟩]
def Qk.sem (k : Nat) : QT := Q2j Qk.T Qk.os fun x => Qk k x.1 x.2.1
noncomputable def Qk.ctx (k : Nat) : Ctx := ⟨Tryz.prog, gam [(113, (Q0t.sem k)), (114, (Q18.sem k)), (92, (Qr.sem k))]⟩
theorem Qk.gok (k : Nat) : ∀ f, QI Tryz.prog f ((Qk.ctx k).Γ f) := (Ql (Q0t.sem_ok k) (Ql (Q18.sem_ok k) (Ql (Qr.sem_ok k) Q01)))
theorem Qk.l1.round (k : Nat) : Q14 (Qk.ctx k) (QP (Func.code Tryz.f93) [1, 1, 1, 1, 1, 0, 1, 0, 0, 1, 1, 0, 0, 1, 1, 0, 0]) (.nil) Qk.l1.T [.mask [2, 4, 5, 6, 24, 25, 29], .auto 1] Qk.l1.os (Qk.l1.r k) := by
 intro ρ x kn ke; kernel_rfl
theorem Qk.l1.ok (k : Nat) : StOK 1 Tryz.prog (.loop (QP (Func.code Tryz.f93) [1, 1, 1, 1, 1, 0, 1, 0, 0, 1, 1, 0, 0, 1, 1, 0, 0])) (Qp Qk.l1.T Qk.l1.os (Qk.l1 k k)) :=
 Q16 (C := Qk.ctx k) (Qk.gok k) Tryz.mix Q1.nil (by kernel_rfl) (by kernel_rfl) (by kernel_rfl) (Qk.l1.round k) k
theorem Qk.l0.round (k : Nat) : Q14 (Qk.ctx k) (QP (Func.code Tryz.f93) [1, 1, 1, 1, 1, 0, 1, 0, 0]) (.node [] none (.nil) (.node [] none (.nil) (.node [] none (.node [] none (.node [] none (.nil) (.node [] none (.nil) (.node [] none (.node [.mask [2, 4, 5, 6, 24, 25, 29], .auto 1] (some (Qp Qk.l1.T Qk.l1.os (Qk.l1 k k))) .nil .nil) (.nil)))) (.nil)) (.nil)))) Qk.l0.T [.mask [2, 4, 24, 25], .auto 1] Qk.l0.os (Qk.l0.r k) := by
 intro ρ x kn ke; kernel_rfl
theorem Qk.l0.ok (k : Nat) : StOK 1 Tryz.prog (.loop (QP (Func.code Tryz.f93) [1, 1, 1, 1, 1, 0, 1, 0, 0])) (Qp Qk.l0.T Qk.l0.os (Qk.l0 k k)) :=
 Q16 (C := Qk.ctx k) (Qk.gok k) Tryz.mix (Q1.seq Q1.nil (Q1.seq Q1.nil (Q1.seq (Q1.block (Q1.seq Q1.nil (Q1.seq Q1.nil (Q1.block (Q1.loop (by kernel_rfl) (Qk.l1.ok k)))))) Q1.nil))) (by kernel_rfl) (by kernel_rfl) (by kernel_rfl) (Qk.l0.round k) k
def Qk.ann (k : Nat) : Ann := .node [] none (.nil) (.node [] none (.nil) (.node [] none (.nil) (.node [] none (.nil) (.node [] none (.nil) (.node [] none (.node [] none (.nil) (.node [] none (.node [.mask [2, 4, 24, 25], .auto 1] (some (Qp Qk.l0.T Qk.l0.os (Qk.l0 k k))) .nil .nil) (.nil))) (.nil))))))
theorem Qk.body (k : Nat) : Q2k (Qk.ctx k) Tryz.f93 (Func.code Tryz.f93) (Qk.ann k) Qk.T Qk.os (fun x K => Qk.c k x.1 x.2.1 K) := by
 intro ρ x K; kernel_rfl
theorem Qk.sem_ok (k : Nat) : QI Tryz.prog 93 (Qk.sem k) :=
 Q1G (C := Qk.ctx k) (Qk.gok k) Tryz.mix (c := Func.code Tryz.f93) (ann := Qk.ann k) (T := Qk.T) (os := Qk.os) (fun x K => Qk.c k x.1 x.2.1 K) Tryz.func93 (by kernel_rfl) (by kernel_rfl) (Q1.seq Q1.nil (Q1.seq Q1.nil (Q1.seq Q1.nil (Q1.seq Q1.nil (Q1.seq Q1.nil (Q1.seq (Q1.seq Q1.nil (Q1.block (Q1.loop (by kernel_rfl) (Qk.l0.ok k)))) Q1.nil)))))) (Qk.body k) (by kernel_rfl) (by kernel_rfl) (by kernel_rfl)
def Q1P.c (k : Nat) {ρ : Type} (s : ByteArray) (K : (List Int) × Unit → Option ρ) : Option ρ :=
 (Q1R k ).bind fun t0 => (Qz k s (t0.1.1, ((), (t0.1.2.2.1, ())))).bind fun t1 => (Qk k (t1.1.1, ((), (t1.1.2.2.1, ()))) t1.2.1).bind fun t2 => K (t2.1, ())
def Q1P (k : Nat) (s : ByteArray) : Option QgZ := Q1P.c k s some
def Q1P.tin : List Ty := [.str]
def Q1P.tout : List Ty := [QgY]
def Q1P.sem (k : Nat) : QT := Q00 Q1P.tin Q1P.tout fun x => Q1P k x.1
noncomputable def Q1P.ctx (k : Nat) : Ctx := ⟨Tryz.prog, gam [(91, (Q1R.sem k)), (92, (Qz.sem k)), (93, (Qk.sem k))]⟩
theorem Q1P.gok (k : Nat) : ∀ f, QI Tryz.prog f ((Q1P.ctx k).Γ f) := (Ql (Q1R.sem_ok k) (Ql (Qz.sem_ok k) (Ql (Qk.sem_ok k) Q01)))
def Q1P.ann (k : Nat) : Ann := .nil
theorem Q1P.body (k : Nat) : Q0W (Q1P.ctx k) Tryz.f60 (Func.code Tryz.f60) (Q1P.ann k) Q1P.tin Q1P.tout (fun x K => Q1P.c k x.1 K) := by
 intro ρ x K; kernel_rfl
theorem Q1P.sem_ok (k : Nat) : QI Tryz.prog 60 (Q1P.sem k) :=
 QG (C := Q1P.ctx k) (Q1P.gok k) Tryz.mix (c := Func.code Tryz.f60) (ann := Q1P.ann k) (tin := Q1P.tin) (tout := Q1P.tout) (fun x K => Q1P.c k x.1 K) Tryz.func60 (by kernel_rfl) (by kernel_rfl) Q1.nil (Q1P.body k)
def Q1l.c (k : Nat) {ρ : Type} (s : ByteArray) (K : (List Int) × Unit → Option ρ) : Option ρ :=
 (Q1P k s).bind fun t0 => let v1 : ByteArray := (bytesOf (List.take 32 (List.drop 0 t0.1)))
 (Q1P k v1).bind fun t2 => K (t2.1, ())
def Q1l (k : Nat) (s : ByteArray) : Option QgZ := Q1l.c k s some
def Q1l.tin : List Ty := [.str]
def Q1l.tout : List Ty := [QgY]
def Q1l.sem (k : Nat) : QT := Q00 Q1l.tin Q1l.tout fun x => Q1l k x.1
noncomputable def Q1l.ctx (k : Nat) : Ctx := ⟨Tryz.prog, gam [(60, (Q1P.sem k))]⟩
theorem Q1l.gok (k : Nat) : ∀ f, QI Tryz.prog f ((Q1l.ctx k).Γ f) := (Ql (Q1P.sem_ok k) Q01)
def Q1l.ann (k : Nat) : Ann := .nil
theorem Q1l.body (k : Nat) : Q0W (Q1l.ctx k) Tryz.f33 (Func.code Tryz.f33) (Q1l.ann k) Q1l.tin Q1l.tout (fun x K => Q1l.c k x.1 K) := by
 intro ρ x K; kernel_rfl
theorem Q1l.sem_ok (k : Nat) : QI Tryz.prog 33 (Q1l.sem k) :=
 QG (C := Q1l.ctx k) (Q1l.gok k) Tryz.mix (c := Func.code Tryz.f33) (ann := Q1l.ann k) (tin := Q1l.tin) (tout := Q1l.tout) (fun x K => Q1l.c k x.1 K) Tryz.func33 (by kernel_rfl) (by kernel_rfl) Q1.nil (Q1l.body k)
end Go.Am
namespace Go.Am
open Go Go.Proofs
set_option maxRecDepth 100000
abbrev Qf.l0.σ : Type := Int × (List Int) × Unit
abbrev Qf.l0.τ : Type := (Int × (List Int) × Unit)
def Qf.l0.r (k : Nat) {ρ : Type} (x : Qf.l0.σ) (kn : Qf.l0.σ → Option ρ) (ke : Qf.l0.τ → Option ρ) : Option ρ :=
 let v0 : Int := (((List.length x.2.1) : Nat) : Int)
 let v1 : Int := (IntKind.wrap IntKind.u64 (x.1 + (IntKind.wrap IntKind.u64 v0)))
 bif ((Int.tmod v1 (64 : Int)) != (56 : Int)) then (bif (Nat.ble (((List.length x.2.1) + 1) * 1) 140737488355328) then (kn (x.1, ((x.2.1 ++ (List.set (List.replicate 1 (0 : Int)) 0 (0 : Int))), ()))) else (none)) else (ke (x.1, (x.2.1, ())))
def Qf.l0 (k : Nat) : Nat → Qf.l0.σ → Option Qf.l0.τ := Q15 (Qf.l0.r k)
def Qf.l0.T : StT := ⟨.dat (.int .u64) :: us 2 ++ .vsl 0 :: us 29, [.vec (.int .u8)]⟩
def Qf.l0.os : List Out := [⟨(.exit 0), [.mask [0, 3], .auto 0], ⟨.dat (.int .u64) :: us 2 ++ .vsl 0 :: us 29, [.vec (.int .u8)]⟩⟩]
abbrev Qf.l1.σ : Type := Int × Int × (List Int) × Unit
abbrev Qf.l1.τ : Type := QgZ 
def Qf.l1.r (k : Nat) {ρ : Type} (x : Qf.l1.σ) (kn : Qf.l1.σ → Option ρ) (ke : Qf.l1.τ → Option ρ) : Option ρ :=
 bif (decide (x.2.1 ≥ (0 : Int))) then (let v4 : Int := (IntKind.wrap IntKind.i64 ((8 : Int) * x.2.1))
 bif (decide ((0 : Int) ≤ v4)) then (let v5 : Int := (Q2c IntKind.u64 x.1 v4)
 bif (Nat.ble (((List.length x.2.2.1) + (List.length (List.set (List.replicate 1 (0 : Int)) 0 (IntKind.wrap IntKind.u8 v5)))) * 1) 140737488355328) then (let v6 : Int := (IntKind.wrap IntKind.i64 (x.2.1 - (1 : Int)))
 kn (x.1, (v6, ((x.2.2.1 ++ (List.set (List.replicate 1 (0 : Int)) 0 (IntKind.wrap IntKind.u8 v5))), ())))) else (none)) else (none)) else (ke (x.2.2.1, ()))
def Qf.l1 (k : Nat) : Nat → Qf.l1.σ → Option Qf.l1.τ := Q15 (Qf.l1.r k)
def Qf.l1.T : StT := ⟨us 3 ++ .vsl 0 :: .dat (.int .u64) :: .dat (.int .i64) :: us 27, [.vec (.int .u8)]⟩
def Qf.l1.os : List Out := [⟨(.exit 2), [.mask [3], .auto 0], ⟨us 3 ++ .vsl 0 :: us 29, [.vec (.int .u8)]⟩⟩]
def Qf.c (k : Nat) {ρ : Type} (n : Int) (K : ByteArray × Unit → Option ρ) : Option ρ :=
 (Qf.l0 k k (n, ((List.set (List.replicate 1 (0 : Int)) 0 (128 : Int)), ()))).bind fun t2 => let v3 : Int := (IntKind.wrap IntKind.u64 ((8 : Int) * t2.1))
 (Qf.l1 k k (v3, ((7 : Int), (t2.2.1, ())))).bind fun t7 => K ((bytesOf t7.1), ())
def Qf (k : Nat) (n : Int) : Option (ByteArray × Unit) := Qf.c k n some
def Qf.tin : List Ty := [(.int .u64)]
def Qf.tout : List Ty := [.str]
def Qf.sem (k : Nat) : QT := Q00 Qf.tin Qf.tout fun x => Qf k x.1
noncomputable def Qf.ctx (k : Nat) : Ctx := ⟨Tryz.prog, gam []⟩
theorem Qf.gok (k : Nat) : ∀ f, QI Tryz.prog f ((Qf.ctx k).Γ f) := Q01
theorem Qf.l0.round (k : Nat) : Q14 (Qf.ctx k) (QP (Func.code Tryz.f98) [1, 1, 0, 0, 0]) (.nil) Qf.l0.T [.mask [0, 3], .auto 0] Qf.l0.os (Qf.l0.r k) := by
 intro ρ x kn ke; kernel_rfl
theorem Qf.l0.ok (k : Nat) : StOK 0 Tryz.prog (.loop (QP (Func.code Tryz.f98) [1, 1, 0, 0, 0])) (Qp Qf.l0.T Qf.l0.os (Qf.l0 k k)) :=
 Q16 (C := Qf.ctx k) (Qf.gok k) Tryz.mix Q1.nil (by kernel_rfl) (by kernel_rfl) (by kernel_rfl) (Qf.l0.round k) k
theorem Qf.l1.round (k : Nat) : Q14 (Qf.ctx k) (QP (Func.code Tryz.f98) [1, 1, 1, 1, 0, 1, 0, 0]) (.nil) Qf.l1.T [.mask [3, 4, 5], .auto 0] Qf.l1.os (Qf.l1.r k) := by
 intro ρ x kn ke; kernel_rfl
theorem Qf.l1.ok (k : Nat) : StOK 0 Tryz.prog (.loop (QP (Func.code Tryz.f98) [1, 1, 1, 1, 0, 1, 0, 0])) (Qp Qf.l1.T Qf.l1.os (Qf.l1 k k)) :=
 Q16 (C := Qf.ctx k) (Qf.gok k) Tryz.mix Q1.nil (by kernel_rfl) (by kernel_rfl) (by kernel_rfl) (Qf.l1.round k) k
def Qf.ann (k : Nat) : Ann := .node [] none (.nil) (.node [] none (.nil) (.node [] none (.node [] none (.node [.mask [0, 3], .auto 0] (some (Qp Qf.l0.T Qf.l0.os (Qf.l0 k k))) .nil .nil) (.nil)) (.node [] none (.nil) (.node [] none (.node [] none (.nil) (.node [] none (.node [.mask [3, 4, 5], .auto 0] (some (Qp Qf.l1.T Qf.l1.os (Qf.l1 k k))) .nil .nil) (.nil))) (.nil)))))
theorem Qf.body (k : Nat) : Q0W (Qf.ctx k) Tryz.f98 (Func.code Tryz.f98) (Qf.ann k) Qf.tin Qf.tout (fun x K => Qf.c k x.1 K) := by
 intro ρ x K; kernel_rfl
theorem Qf.sem_ok (k : Nat) : QI Tryz.prog 98 (Qf.sem k) :=
 QG (C := Qf.ctx k) (Qf.gok k) Tryz.mix (c := Func.code Tryz.f98) (ann := Qf.ann k) (tin := Qf.tin) (tout := Qf.tout) (fun x K => Qf.c k x.1 K) Tryz.func98 (by kernel_rfl) (by kernel_rfl) (Q1.seq Q1.nil (Q1.seq Q1.nil (Q1.seq (Q1.block (Q1.loop (by kernel_rfl) (Qf.l0.ok k))) (Q1.seq Q1.nil (Q1.seq (Q1.seq Q1.nil (Q1.block (Q1.loop (by kernel_rfl) (Qf.l1.ok k)))) Q1.nil))))) (Qf.body k)
def Q0B.c (k : Nat) {ρ : Type}  (K : (List Int) × Unit → Option ρ) : Option ρ :=
 let v0 : (List Int) := (List.set (List.set (List.set (List.set (List.set (List.set (List.set (List.set (List.replicate 8 (0 : Int)) 0 (1779033703 : Int)) 1 (3144134277 : Int)) 2 (1013904242 : Int)) 3 (2773480762 : Int)) 4 (1359893119 : Int)) 5 (2600822924 : Int)) 6 (528734635 : Int)) 7 (1541459225 : Int))
 K (v0, ())
def Q0B (k : Nat)  : Option QgZ := Q0B.c k  some
def Q0B.tin : List Ty := []
def Q0B.tout : List Ty := [QgW]
def Q0B.sem (k : Nat) : QT := Q00 Q0B.tin Q0B.tout fun x => Q0B k 
noncomputable def Q0B.ctx (k : Nat) : Ctx := ⟨Tryz.prog, gam []⟩
theorem Q0B.gok (k : Nat) : ∀ f, QI Tryz.prog f ((Q0B.ctx k).Γ f) := Q01
def Q0B.ann (k : Nat) : Ann := .nil
theorem Q0B.body (k : Nat) : Q0W (Q0B.ctx k) Tryz.f99 (Func.code Tryz.f99) (Q0B.ann k) Q0B.tin Q0B.tout (fun x K => Q0B.c k  K) := by
 intro ρ x K; kernel_rfl
theorem Q0B.sem_ok (k : Nat) : QI Tryz.prog 99 (Q0B.sem k) :=
 QG (C := Q0B.ctx k) (Q0B.gok k) Tryz.mix (c := Func.code Tryz.f99) (ann := Q0B.ann k) (tin := Q0B.tin) (tout := Q0B.tout) (fun x K => Q0B.c k  K) Tryz.func99 (by kernel_rfl) (by kernel_rfl) Q1.nil (Q0B.body k)
def Q05.c (k : Nat) {ρ : Type}  (K : (List Int) × Unit → Option ρ) : Option ρ :=
 let v0 : (List Int) := (List.set (List.set (List.set (List.set (List.set (List.set (List.set (List.set (List.set (List.set (List.set (List.set (List.set (List.set (List.set (List.set (List.set (List.set (List.set (List.set (List.set (List.set (List.set (List.set (List.set (List.set (List.set (List.set (List.set (List.set (List.set (List.set (List.set (List.set (List.set (List.set (List.set (List.set (List.set (List.set (List.set (List.set (List.set (List.set (List.set (List.set (List.set (List.set (List.set (List.set (List.set (List.set (List.set (List.set (List.set (List.set (List.set (List.set (List.set (List.set (List.set (List.set (List.set (List.set (List.replicate 64 (0 : Int)) 0 (1116352408 : Int)) 1 (1899447441 : Int)) 2 (3049323471 : Int)) 3 (3921009573 : Int)) 4 (961987163 : Int)) 5 (1508970993 : Int)) 6 (2453635748 : Int)) 7 (2870763221 : Int)) 8 (3624381080 : Int)) 9 (310598401 : Int)) 10 (607225278 : Int)) 11 (1426881987 : Int)) 12 (1925078388 : Int)) 13 (2162078206 : Int)) 14 (2614888103 : Int)) 15 (3248222580 : Int)) 16 (3835390401 : Int)) 17 (4022224774 : Int)) 18 (264347078 : Int)) 19 (604807628 : Int)) 20 (770255983 : Int)) 21 (1249150122 : Int)) 22 (1555081692 : Int)) 23 (1996064986 : Int)) 24 (2554220882 : Int)) 25 (2821834349 : Int)) 26 (2952996808 : Int)) 27 (3210313671 : Int)) 28 (3336571891 : Int)) 29 (3584528711 : Int)) 30 (113926993 : Int)) 31 (338241895 : Int)) 32 (666307205 : Int)) 33 (773529912 : Int)) 34 (1294757372 : Int)) 35 (1396182291 : Int)) 36 (1695183700 : Int)) 37 (1986661051 : Int)) 38 (2177026350 : Int)) 39 (2456956037 : Int)) 40 (2730485921 : Int)) 41 (2820302411 : Int)) 42 (3259730800 : Int)) 43 (3345764771 : Int)) 44 (3516065817 : Int)) 45 (3600352804 : Int)) 46 (4094571909 : Int)) 47 (275423344 : Int)) 48 (430227734 : Int)) 49 (506948616 : Int)) 50 (659060556 : Int)) 51 (883997877 : Int)) 52 (958139571 : Int)) 53 (1322822218 : Int)) 54 (1537002063 : Int)) 55 (1747873779 : Int)) 56 (1955562222 : Int)) 57 (2024104815 : Int)) 58 (2227730452 : Int)) 59 (2361852424 : Int)) 60 (2428436474 : Int)) 61 (2756734187 : Int)) 62 (3204031479 : Int)) 63 (3329325298 : Int))
 K (v0, ())
def Q05 (k : Nat)  : Option QgZ := Q05.c k  some
def Q05.tin : List Ty := []
def Q05.tout : List Ty := [QgV]
def Q05.sem (k : Nat) : QT := Q00 Q05.tin Q05.tout fun x => Q05 k 
noncomputable def Q05.ctx (k : Nat) : Ctx := ⟨Tryz.prog, gam []⟩
theorem Q05.gok (k : Nat) : ∀ f, QI Tryz.prog f ((Q05.ctx k).Γ f) := Q01
def Q05.ann (k : Nat) : Ann := .nil
theorem Q05.body (k : Nat) : Q0W (Q05.ctx k) Tryz.f116 (Func.code Tryz.f116) (Q05.ann k) Q05.tin Q05.tout (fun x K => Q05.c k  K) := by
 intro ρ x K; kernel_rfl
theorem Q05.sem_ok (k : Nat) : QI Tryz.prog 116 (Q05.sem k) :=
 QG (C := Q05.ctx k) (Q05.gok k) Tryz.mix (c := Func.code Tryz.f116) (ann := Q05.ann k) (tin := Q05.tin) (tout := Q05.tout) (fun x K => Q05.c k  K) Tryz.func116 (by kernel_rfl) (by kernel_rfl) Q1.nil (Q05.body k)
def Q02.c (k : Nat) {ρ : Type} (n : Int) (by_1 : Int) (K : Int × Unit → Option ρ) : Option ρ :=
 bif (decide ((0 : Int) ≤ by_1)) then (let v0 : Int := (IntKind.wrap IntKind.i64 ((32 : Int) - by_1))
 bif (decide ((0 : Int) ≤ v0)) then (let v1 : Int := (Q12 BinOp.or IntKind.u32 (Q2c IntKind.u32 n by_1) (Q2w IntKind.u32 n v0))
 K (v1, ())) else (none)) else (none)
def Q02 (k : Nat) (n : Int) (by_1 : Int) : Option (Int × Unit) := Q02.c k n by_1 some
def Q02.tin : List Ty := [(.int .u32), (.int .i64)]
def Q02.tout : List Ty := [(.int .u32)]
def Q02.sem (k : Nat) : QT := Q00 Q02.tin Q02.tout fun x => Q02 k x.1 x.2.1
noncomputable def Q02.ctx (k : Nat) : Ctx := ⟨Tryz.prog, gam []⟩
theorem Q02.gok (k : Nat) : ∀ f, QI Tryz.prog f ((Q02.ctx k).Γ f) := Q01
def Q02.ann (k : Nat) : Ann := .nil
theorem Q02.body (k : Nat) : Q0W (Q02.ctx k) Tryz.f117 (Func.code Tryz.f117) (Q02.ann k) Q02.tin Q02.tout (fun x K => Q02.c k x.1 x.2.1 K) := by
 intro ρ x K; kernel_rfl
theorem Q02.sem_ok (k : Nat) : QI Tryz.prog 117 (Q02.sem k) :=
 QG (C := Q02.ctx k) (Q02.gok k) Tryz.mix (c := Func.code Tryz.f117) (ann := Q02.ann k) (tin := Q02.tin) (tout := Q02.tout) (fun x K => Q02.c k x.1 x.2.1 K) Tryz.func117 (by kernel_rfl) (by kernel_rfl) Q1.nil (Q02.body k)
abbrev Q4.l0.σ : Type := Int × (List Int) × (List Int) × (List Int) × (List Int) × (List Int) × Unit
abbrev Q4.l0.τ : Type := ((List Int) × (List Int) × (List Int) × (List Int) × Unit)
def Q4.l0.r (k : Nat) {ρ : Type} (x : Q4.l0.σ) (kn : Q4.l0.σ → Option ρ) (ke : Q4.l0.τ → Option ρ) : Option ρ :=
 bif (decide (x.1 < (64 : Int))) then (bif (decide (x.1 < (16 : Int))) then (let v2 : Int := (IntKind.wrap IntKind.i64 ((4 : Int) * x.1))
 bif (decide (((0 : Int) ≤ v2) ∧ (v2 < ((64 : Nat) : Int)))) then (let v3 : Int := (List.getD x.2.2.1 (Int.toNat v2) (0 : Int))
 let v4 : Int := (Q2w IntKind.u32 (IntKind.wrap IntKind.u32 v3) (24 : Int))
 let v5 : Int := (IntKind.wrap IntKind.i64 ((4 : Int) * x.1))
 let v6 : Int := (IntKind.wrap IntKind.i64 (v5 + (1 : Int)))
 bif (decide (((0 : Int) ≤ v6) ∧ (v6 < ((64 : Nat) : Int)))) then (let v7 : Int := (List.getD x.2.2.1 (Int.toNat v6) (0 : Int))
 let v8 : Int := (Q2w IntKind.u32 (IntKind.wrap IntKind.u32 v7) (16 : Int))
 let v9 : Int := (IntKind.wrap IntKind.i64 ((4 : Int) * x.1))
 let v10 : Int := (IntKind.wrap IntKind.i64 (v9 + (2 : Int)))
 bif (decide (((0 : Int) ≤ v10) ∧ (v10 < ((64 : Nat) : Int)))) then (let v11 : Int := (List.getD x.2.2.1 (Int.toNat v10) (0 : Int))
 let v12 : Int := (Q2w IntKind.u32 (IntKind.wrap IntKind.u32 v11) (8 : Int))
 let v13 : Int := (Q12 BinOp.or IntKind.u32 (Q12 BinOp.or IntKind.u32 v4 v8) v12)
 let v14 : Int := (IntKind.wrap IntKind.i64 ((4 : Int) * x.1))
 let v15 : Int := (IntKind.wrap IntKind.i64 (v14 + (3 : Int)))
 bif (decide (((0 : Int) ≤ v15) ∧ (v15 < ((64 : Nat) : Int)))) then (let v16 : Int := (List.getD x.2.2.1 (Int.toNat v15) (0 : Int))
 bif (decide (((0 : Int) ≤ x.1) ∧ (x.1 < ((64 : Nat) : Int)))) then (let v17 : Int := (IntKind.wrap IntKind.i64 (x.1 + (1 : Int)))
 kn (v17, (x.2.1, (x.2.2.1, (x.2.2.2.1, (x.2.2.2.2.1, ((List.set x.2.2.2.2.2.1 (Int.toNat x.1) (Q12 BinOp.or IntKind.u32 v13 (IntKind.wrap IntKind.u32 v16))), ()))))))) else (none)) else (none)) else (none)) else (none)) else (none)) else (let v18 : Int := (IntKind.wrap IntKind.i64 (x.1 - (15 : Int)))
 bif (decide (((0 : Int) ≤ v18) ∧ (v18 < ((64 : Nat) : Int)))) then (let v19 : Int := (List.getD x.2.2.2.2.2.1 (Int.toNat v18) (0 : Int))
 let v20 : Int := (IntKind.wrap IntKind.i64 (x.1 - (2 : Int)))
 bif (decide (((0 : Int) ≤ v20) ∧ (v20 < ((64 : Nat) : Int)))) then (let v21 : Int := (List.getD x.2.2.2.2.2.1 (Int.toNat v20) (0 : Int))
 (Q02 k v21 (17 : Int)).bind fun t22 => (Q02 k v21 (19 : Int)).bind fun t23 => let v24 : Int := (Q12 BinOp.xor IntKind.u32 t22.1 t23.1)
 let v25 : Int := (Q2c IntKind.u32 v21 (10 : Int))
 let v26 : Int := (IntKind.wrap IntKind.i64 (x.1 - (7 : Int)))
 bif (decide (((0 : Int) ≤ v26) ∧ (v26 < ((64 : Nat) : Int)))) then (let v27 : Int := (List.getD x.2.2.2.2.2.1 (Int.toNat v26) (0 : Int))
 let v28 : Int := (IntKind.wrap IntKind.u32 ((Q12 BinOp.xor IntKind.u32 v24 v25) + v27))
 (Q02 k v19 (7 : Int)).bind fun t29 => (Q02 k v19 (18 : Int)).bind fun t30 => let v31 : Int := (Q12 BinOp.xor IntKind.u32 t29.1 t30.1)
 let v32 : Int := (Q2c IntKind.u32 v19 (3 : Int))
 let v33 : Int := (IntKind.wrap IntKind.u32 (v28 + (Q12 BinOp.xor IntKind.u32 v31 v32)))
 let v34 : Int := (IntKind.wrap IntKind.i64 (x.1 - (16 : Int)))
 bif (decide (((0 : Int) ≤ v34) ∧ (v34 < ((64 : Nat) : Int)))) then (let v35 : Int := (List.getD x.2.2.2.2.2.1 (Int.toNat v34) (0 : Int))
 let v36 : Int := (IntKind.wrap IntKind.u32 (v33 + v35))
 bif (decide (((0 : Int) ≤ x.1) ∧ (x.1 < ((64 : Nat) : Int)))) then (let v37 : Int := (IntKind.wrap IntKind.i64 (x.1 + (1 : Int)))
 kn (v37, (x.2.1, (x.2.2.1, (x.2.2.2.1, (x.2.2.2.2.1, ((List.set x.2.2.2.2.2.1 (Int.toNat x.1) v36), ()))))))) else (none)) else (none)) else (none)) else (none)) else (none))) else (ke (x.2.1, (x.2.2.2.1, (x.2.2.2.2.1, (x.2.2.2.2.2.1, ())))))
def Q4.l0 (k : Nat) : Nat → Q4.l0.σ → Option Q4.l0.τ := Q15 (Q4.l0.r k)
def Q4.l0.T : StT := ⟨us 2 ++ .ptr 0 [] :: .ptr 1 [] :: .ptr 2 [] :: .ptr 3 [] :: .ptr 4 [] :: .dat (.int .i64) :: us 181, [.dat QgW, .dat QgX, .dat QgW, .dat QgV, .dat QgV]⟩
def Q4.l0.os : List Out := [⟨(.exit 0), [.mask [2, 4, 5, 6], .auto 0], ⟨us 2 ++ .ptr 0 [] :: us 1 ++ .ptr 1 [] :: .ptr 2 [] :: .ptr 3 [] :: us 182, [.dat QgW, .dat QgW, .dat QgV, .dat QgV]⟩⟩]
abbrev Q4.l1.σ : Type := Int × (List Int) × (List Int) × (List Int) × (List Int) × (List Int) × Unit
abbrev Q4.l1.τ : Type := QgR 
def Q4.l1.r (k : Nat) {ρ : Type} (x : Q4.l1.σ) (kn : Q4.l1.σ → Option ρ) (ke : Q4.l1.τ → Option ρ) : Option ρ :=
 bif (decide (x.1 < (64 : Int))) then (let v40 : Int := (List.getD x.2.2.2.2.2.1 4 (0 : Int))
 let v41 : Int := (List.getD x.2.2.2.2.2.1 0 (0 : Int))
 let v42 : Int := (List.getD x.2.2.2.2.2.1 7 (0 : Int))
 (Q02 k v40 (6 : Int)).bind fun t43 => (Q02 k v40 (11 : Int)).bind fun t44 => let v45 : Int := (Q12 BinOp.xor IntKind.u32 t43.1 t44.1)
 (Q02 k v40 (25 : Int)).bind fun t46 => let v47 : Int := (Q12 BinOp.xor IntKind.u32 v45 t46.1)
 let v48 : Int := (IntKind.wrap IntKind.u32 (v42 + v47))
 let v49 : Int := (List.getD x.2.2.2.2.2.1 5 (0 : Int))
 let v50 : Int := (IntKind.wrap IntKind.u32 ((4294967295 : Int) - v40))
 let v51 : Int := (List.getD x.2.2.2.2.2.1 6 (0 : Int))
 let v52 : Int := (Q12 BinOp.xor IntKind.u32 (Q12 BinOp.and IntKind.u32 v40 v49) (Q12 BinOp.and IntKind.u32 v50 v51))
 let v53 : Int := (IntKind.wrap IntKind.u32 (v48 + v52))
 bif (decide (((0 : Int) ≤ x.1) ∧ (x.1 < ((64 : Nat) : Int)))) then (let v54 : Int := (List.getD x.2.2.2.1 (Int.toNat x.1) (0 : Int))
 let v55 : Int := (IntKind.wrap IntKind.u32 (v53 + v54))
 bif (decide (((0 : Int) ≤ x.1) ∧ (x.1 < ((64 : Nat) : Int)))) then (let v56 : Int := (List.getD x.2.2.2.2.1 (Int.toNat x.1) (0 : Int))
 let v57 : Int := (IntKind.wrap IntKind.u32 (v55 + v56))
 (Q02 k v41 (2 : Int)).bind fun t58 => (Q02 k v41 (13 : Int)).bind fun t59 => let v60 : Int := (Q12 BinOp.xor IntKind.u32 t58.1 t59.1)
 (Q02 k v41 (22 : Int)).bind fun t61 => let v62 : Int := (Q12 BinOp.xor IntKind.u32 v60 t61.1)
 let v63 : Int := (List.getD x.2.2.2.2.2.1 1 (0 : Int))
 let v64 : Int := (List.getD x.2.2.2.2.2.1 2 (0 : Int))
 let v65 : Int := (Q12 BinOp.xor IntKind.u32 (Q12 BinOp.and IntKind.u32 v41 v63) (Q12 BinOp.and IntKind.u32 v41 v64))
 let v66 : Int := (List.getD x.2.2.2.2.2.1 1 (0 : Int))
 let v67 : Int := (List.getD x.2.2.2.2.2.1 2 (0 : Int))
 let v68 : Int := (Q12 BinOp.xor IntKind.u32 v65 (Q12 BinOp.and IntKind.u32 v66 v67))
 let v69 : Int := (IntKind.wrap IntKind.u32 (v62 + v68))
 let v70 : Int := (IntKind.wrap IntKind.u32 (v57 + v69))
 let v71 : Int := (List.getD x.2.2.2.2.2.1 0 (0 : Int))
 let v72 : Int := (List.getD x.2.2.2.2.2.1 1 (0 : Int))
 let v73 : Int := (List.getD x.2.2.2.2.2.1 2 (0 : Int))
 let v74 : Int := (List.getD x.2.2.2.2.2.1 3 (0 : Int))
 let v75 : Int := (IntKind.wrap IntKind.u32 (v74 + v57))
 let v76 : Int := (List.getD x.2.2.2.2.2.1 4 (0 : Int))
 let v77 : Int := (List.getD x.2.2.2.2.2.1 5 (0 : Int))
 let v78 : Int := (List.getD x.2.2.2.2.2.1 6 (0 : Int))
 let v79 : (List Int) := (List.set (List.set (List.set (List.set (List.set (List.set (List.set (List.set (List.replicate 8 (0 : Int)) 0 v70) 1 v71) 2 v72) 3 v73) 4 v75) 5 v76) 6 v77) 7 v78)
 let v80 : Int := (IntKind.wrap IntKind.i64 (x.1 + (1 : Int)))
 kn (v80, (x.2.1, (x.2.2.1, (x.2.2.2.1, (x.2.2.2.2.1, (v79, ()))))))) else (none)) else (none)) else (ke (x.2.1, (x.2.2.1, (x.2.2.2.2.2.1, ()))))
def Q4.l1 (k : Nat) : Nat → Q4.l1.σ → Option Q4.l1.τ := Q15 (Q4.l1.r k)
def Q4.l1.T : StT := ⟨us 2 ++ .ptr 0 [] :: us 1 ++ .ptr 1 [] :: .ptr 2 [] :: .ptr 3 [] :: us 3 ++ .ptr 4 [] :: .dat (.int .i64) :: us 177, [.dat QgW, .dat QgW, .dat QgV, .dat QgV, .dat QgW]⟩
def Q4.l1.os : List Out := [⟨(.exit 2), [.mask [2, 4, 10], .auto 0], ⟨us 2 ++ .ptr 0 [] :: us 1 ++ .ptr 1 [] :: us 5 ++ .ptr 2 [] :: us 178, [.dat QgW, .dat QgW, .dat QgW]⟩⟩]
abbrev Q4.l2.σ : Type := Int × (List Int) × (List Int) × (List Int) × Unit
abbrev Q4.l2.τ : Type := QgT 
def Q4.l2.r (k : Nat) {ρ : Type} (x : Q4.l2.σ) (kn : Q4.l2.σ → Option ρ) (ke : Q4.l2.τ → Option ρ) : Option ρ :=
 bif (decide (x.1 < (8 : Int))) then (bif (decide (((0 : Int) ≤ x.1) ∧ (x.1 < ((8 : Nat) : Int)))) then (let v82 : Int := (List.getD x.2.1 (Int.toNat x.1) (0 : Int))
 bif (decide (((0 : Int) ≤ x.1) ∧ (x.1 < ((8 : Nat) : Int)))) then (let v83 : Int := (List.getD x.2.2.2.1 (Int.toNat x.1) (0 : Int))
 let v84 : Int := (IntKind.wrap IntKind.u32 (v82 + v83))
 bif (decide (((0 : Int) ≤ x.1) ∧ (x.1 < ((8 : Nat) : Int)))) then (let v85 : Int := (IntKind.wrap IntKind.i64 (x.1 + (1 : Int)))
 kn (v85, ((List.set x.2.1 (Int.toNat x.1) v84), (x.2.2.1, (x.2.2.2.1, ()))))) else (none)) else (none)) else (none)) else (ke (x.2.1, (x.2.2.1, ())))
def Q4.l2 (k : Nat) : Nat → Q4.l2.σ → Option Q4.l2.τ := Q15 (Q4.l2.r k)
def Q4.l2.T : StT := ⟨us 2 ++ .ptr 0 [] :: us 1 ++ .ptr 1 [] :: us 5 ++ .ptr 2 [] :: us 5 ++ .dat (.int .i64) :: us 172, [.dat QgW, .dat QgW, .dat QgW]⟩
def Q4.l2.os : List Out := [⟨(.exit 4), [.mask [2, 4], .auto 0], ⟨us 2 ++ .ptr 0 [] :: us 1 ++ .ptr 1 [] :: us 184, [.dat QgW, .dat QgW]⟩⟩]
def Q4.c (k : Nat) {ρ : Type} (s : (List Int)) (block : (List Int)) (K : (List Int) × Unit → Option ρ) : Option ρ :=
 (Q05 k ).bind fun t0 => let v1 : (List Int) := (List.replicate 64 (0 : Int))
 (Q4.l0 k k ((0 : Int), (s, (block, ((List.replicate 8 (0 : Int)), (t0.1, (v1, ()))))))).bind fun t38 => let v39 : (List Int) := t38.1
 (Q4.l1 k k ((0 : Int), (t38.1, (t38.2.1, (t38.2.2.1, (t38.2.2.2.1, (v39, ()))))))).bind fun t81 => (Q4.l2 k k ((0 : Int), (t81.1, (t81.2.1, (t81.2.2.1, ()))))).bind fun t86 => let v87 : (List Int) := t86.1
 K (v87, ())
def Q4 (k : Nat) (s : (List Int)) (block : (List Int)) : Option QgZ := Q4.c k s block some
def Q4.tin : List Ty := [QgW, QgX]
def Q4.tout : List Ty := [QgW]
def Q4.sem (k : Nat) : QT := Q00 Q4.tin Q4.tout fun x => Q4 k x.1 x.2.1
noncomputable def Q4.ctx (k : Nat) : Ctx := ⟨Tryz.prog, gam [(116, (Q05.sem k)), (117, (Q02.sem k))]⟩
theorem Q4.gok (k : Nat) : ∀ f, QI Tryz.prog f ((Q4.ctx k).Γ f) := (Ql (Q05.sem_ok k) (Ql (Q02.sem_ok k) Q01))
theorem Q4.l0.round (k : Nat) : Q14 (Q4.ctx k) (QP (Func.code Tryz.f100) [1, 1, 1, 0, 1, 0, 0]) (.nil) Q4.l0.T [.mask [2, 3, 4, 5, 6, 7], .auto 0] Q4.l0.os (Q4.l0.r k) := by
 intro ρ x kn ke; kernel_rfl
theorem Q4.l0.ok (k : Nat) : StOK 0 Tryz.prog (.loop (QP (Func.code Tryz.f100) [1, 1, 1, 0, 1, 0, 0])) (Qp Q4.l0.T Q4.l0.os (Q4.l0 k k)) :=
 Q16 (C := Q4.ctx k) (Q4.gok k) Tryz.mix Q1.nil (by kernel_rfl) (by kernel_rfl) (by kernel_rfl) (Q4.l0.round k) k
theorem Q4.l1.round (k : Nat) : Q14 (Q4.ctx k) (QP (Func.code Tryz.f100) [1, 1, 1, 1, 1, 0, 1, 0, 0]) (.nil) Q4.l1.T [.mask [2, 4, 5, 6, 10, 11], .auto 0] Q4.l1.os (Q4.l1.r k) := by
 intro ρ x kn ke; kernel_rfl
theorem Q4.l1.ok (k : Nat) : StOK 0 Tryz.prog (.loop (QP (Func.code Tryz.f100) [1, 1, 1, 1, 1, 0, 1, 0, 0])) (Qp Q4.l1.T Q4.l1.os (Q4.l1 k k)) :=
 Q16 (C := Q4.ctx k) (Q4.gok k) Tryz.mix Q1.nil (by kernel_rfl) (by kernel_rfl) (by kernel_rfl) (Q4.l1.round k) k
theorem Q4.l2.round (k : Nat) : Q14 (Q4.ctx k) (QP (Func.code Tryz.f100) [1, 1, 1, 1, 1, 1, 0, 1, 0, 0]) (.nil) Q4.l2.T [.mask [2, 4, 10, 16], .auto 0] Q4.l2.os (Q4.l2.r k) := by
 intro ρ x kn ke; kernel_rfl
theorem Q4.l2.ok (k : Nat) : StOK 0 Tryz.prog (.loop (QP (Func.code Tryz.f100) [1, 1, 1, 1, 1, 1, 0, 1, 0, 0])) (Qp Q4.l2.T Q4.l2.os (Q4.l2 k k)) :=
 Q16 (C := Q4.ctx k) (Q4.gok k) Tryz.mix Q1.nil (by kernel_rfl) (by kernel_rfl) (by kernel_rfl) (Q4.l2.round k) k
def Q4.ann (k : Nat) : Ann := .node [] none (.nil) (.node [] none (.nil) (.node [] none (.nil) (.node [] none (.node [] none (.nil) (.node [] none (.node [.mask [2, 3, 4, 5, 6, 7], .auto 0] (some (Qp Q4.l0.T Q4.l0.os (Q4.l0 k k))) .nil .nil) (.nil))) (.node [] none (.nil) (.node [] none (.node [] none (.nil) (.node [] none (.node [.mask [2, 4, 5, 6, 10, 11], .auto 0] (some (Qp Q4.l1.T Q4.l1.os (Q4.l1 k k))) .nil .nil) (.nil))) (.node [] none (.node [] none (.nil) (.node [] none (.node [.mask [2, 4, 10, 16], .auto 0] (some (Qp Q4.l2.T Q4.l2.os (Q4.l2 k k))) .nil .nil) (.nil))) (.nil)))))))
theorem Q4.body (k : Nat) : Q0W (Q4.ctx k) Tryz.f100 (Func.code Tryz.f100) (Q4.ann k) Q4.tin Q4.tout (fun x K => Q4.c k x.1 x.2.1 K) := by
 intro ρ x K; kernel_rfl
theorem Q4.sem_ok (k : Nat) : QI Tryz.prog 100 (Q4.sem k) :=
 QG (C := Q4.ctx k) (Q4.gok k) Tryz.mix (c := Func.code Tryz.f100) (ann := Q4.ann k) (tin := Q4.tin) (tout := Q4.tout) (fun x K => Q4.c k x.1 x.2.1 K) Tryz.func100 (by kernel_rfl) (by kernel_rfl) (Q1.seq Q1.nil (Q1.seq Q1.nil (Q1.seq Q1.nil (Q1.seq (Q1.seq Q1.nil (Q1.block (Q1.loop (by kernel_rfl) (Q4.l0.ok k)))) (Q1.seq Q1.nil (Q1.seq (Q1.seq Q1.nil (Q1.block (Q1.loop (by kernel_rfl) (Q4.l1.ok k)))) (Q1.seq (Q1.seq Q1.nil (Q1.block (Q1.loop (by kernel_rfl) (Q4.l2.ok k)))) Q1.nil))))))) (Q4.body k)
abbrev Qc.l1.σ : Type := Int × Int × (List Int) × (List Int) × (List Int) × Unit
abbrev Qc.l1.τ : Type := (Int × (List Int) × (List Int) × (List Int) × Unit)
def Qc.l1.r (k : Nat) {ρ : Type} (x : Qc.l1.σ) (kn : Qc.l1.σ → Option ρ) (ke : Qc.l1.τ → Option ρ) : Option ρ :=
 bif (decide (x.2.1 < (4 : Int))) then (let v1 : Int := (IntKind.wrap IntKind.i64 ((4 : Int) * x.1))
 let v2 : Int := (IntKind.wrap IntKind.i64 (v1 + x.2.1))
 bif (decide (((0 : Int) ≤ x.1) ∧ (x.1 < ((8 : Nat) : Int)))) then (let v3 : Int := (List.getD x.2.2.1 (Int.toNat x.1) (0 : Int))
 let v4 : Int := (IntKind.wrap IntKind.i64 ((8 : Int) * x.2.1))
 let v5 : Int := (IntKind.wrap IntKind.i64 ((24 : Int) - v4))
 bif (decide ((0 : Int) ≤ v5)) then (bif (decide (((0 : Int) ≤ v2) ∧ (v2 < ((32 : Nat) : Int)))) then (let v6 : Int := (IntKind.wrap IntKind.i64 (x.2.1 + (1 : Int)))
 kn (x.1, (v6, (x.2.2.1, (x.2.2.2.1, ((List.set x.2.2.2.2.1 (Int.toNat v2) (IntKind.wrap IntKind.u8 (Q2c IntKind.u32 v3 v5))), ())))))) else (none)) else (none)) else (none)) else (ke (x.1, (x.2.2.1, (x.2.2.2.1, (x.2.2.2.2.1, ())))))
def Qc.l1 (k : Nat) : Nat → Qc.l1.σ → Option Qc.l1.τ := Q15 (Qc.l1.r k)
def Qc.l1.T : StT := ⟨us 1 ++ .ptr 0 [] :: .ptr 1 [] :: .ptr 2 [] :: .dat (.int .i64) :: .dat (.int .i64) :: us 23, [.dat QgW, .dat QgY, .dat QgY]⟩
def Qc.l1.os : List Out := [⟨(.exit 2), [.mask [1, 2, 3, 4], .auto 0], ⟨us 1 ++ .ptr 0 [] :: .ptr 1 [] :: .ptr 2 [] :: .dat (.int .i64) :: us 24, [.dat QgW, .dat QgY, .dat QgY]⟩⟩]
abbrev Qc.l0.σ : Type := Int × (List Int) × (List Int) × (List Int) × Unit
abbrev Qc.l0.τ : Type := QgT 
def Qc.l0.r (k : Nat) {ρ : Type} (x : Qc.l0.σ) (kn : Qc.l0.σ → Option ρ) (ke : Qc.l0.τ → Option ρ) : Option ρ :=
 bif (decide (x.1 < (8 : Int))) then ((Qc.l1 k k (x.1, ((0 : Int), (x.2.1, (x.2.2.1, (x.2.2.2.1, ())))))).bind fun t7 => let v8 : Int := (IntKind.wrap IntKind.i64 (t7.1 + (1 : Int)))
 kn (v8, (t7.2.1, (t7.2.2.1, (t7.2.2.2.1, ()))))) else (ke (x.2.2.1, (x.2.2.2.1, ())))
def Qc.l0 (k : Nat) : Nat → Qc.l0.σ → Option Qc.l0.τ := Q15 (Qc.l0.r k)
def Qc.l0.T : StT := ⟨us 1 ++ .ptr 0 [] :: .ptr 1 [] :: .ptr 2 [] :: .dat (.int .i64) :: us 24, [.dat QgW, .dat QgY, .dat QgY]⟩
def Qc.l0.os : List Out := [⟨(.exit 0), [.mask [2, 3], .auto 0], ⟨us 2 ++ .ptr 0 [] :: .ptr 1 [] :: us 25, [.dat QgY, .dat QgY]⟩⟩]
def Qc.c (k : Nat) {ρ : Type} (x_0 : (List Int)) (K : (List Int) × Unit → Option ρ) : Option ρ :=
 let v0 : (List Int) := (List.replicate 32 (0 : Int))
 (Qc.l0 k k ((0 : Int), (x_0, ((List.replicate 32 (0 : Int)), (v0, ()))))).bind fun t9 => let v10 : (List Int) := t9.2.1
 K (v10, ())
def Qc (k : Nat) (x_0 : (List Int)) : Option QgZ := Qc.c k x_0 some
def Qc.tin : List Ty := [QgW]
def Qc.tout : List Ty := [QgY]
def Qc.sem (k : Nat) : QT := Q00 Qc.tin Qc.tout fun x => Qc k x.1
noncomputable def Qc.ctx (k : Nat) : Ctx := ⟨Tryz.prog, gam []⟩
theorem Qc.gok (k : Nat) : ∀ f, QI Tryz.prog f ((Qc.ctx k).Γ f) := Q01
theorem Qc.l1.round (k : Nat) : Q14 (Qc.ctx k) (QP (Func.code Tryz.f101) [1, 1, 0, 1, 0, 0, 1, 0, 0, 1, 0, 0]) (.nil) Qc.l1.T [.mask [1, 2, 3, 4, 5], .auto 0] Qc.l1.os (Qc.l1.r k) := by
 intro ρ x kn ke; kernel_rfl
theorem Qc.l1.ok (k : Nat) : StOK 0 Tryz.prog (.loop (QP (Func.code Tryz.f101) [1, 1, 0, 1, 0, 0, 1, 0, 0, 1, 0, 0])) (Qp Qc.l1.T Qc.l1.os (Qc.l1 k k)) :=
 Q16 (C := Qc.ctx k) (Qc.gok k) Tryz.mix Q1.nil (by kernel_rfl) (by kernel_rfl) (by kernel_rfl) (Qc.l1.round k) k
theorem Qc.l0.round (k : Nat) : Q14 (Qc.ctx k) (QP (Func.code Tryz.f101) [1, 1, 0, 1, 0, 0]) (.node [] none (.nil) (.node [] none (.node [] none (.node [] none (.nil) (.node [] none (.node [.mask [1, 2, 3, 4, 5], .auto 0] (some (Qp Qc.l1.T Qc.l1.os (Qc.l1 k k))) .nil .nil) (.nil))) (.nil)) (.nil))) Qc.l0.T [.mask [1, 2, 3, 4], .auto 0] Qc.l0.os (Qc.l0.r k) := by
 intro ρ x kn ke; kernel_rfl
theorem Qc.l0.ok (k : Nat) : StOK 0 Tryz.prog (.loop (QP (Func.code Tryz.f101) [1, 1, 0, 1, 0, 0])) (Qp Qc.l0.T Qc.l0.os (Qc.l0 k k)) :=
 Q16 (C := Qc.ctx k) (Qc.gok k) Tryz.mix (Q1.seq Q1.nil (Q1.seq (Q1.block (Q1.seq Q1.nil (Q1.block (Q1.loop (by kernel_rfl) (Qc.l1.ok k))))) Q1.nil)) (by kernel_rfl) (by kernel_rfl) (by kernel_rfl) (Qc.l0.round k) k
def Qc.ann (k : Nat) : Ann := .node [] none (.nil) (.node [] none (.nil) (.node [] none (.node [] none (.nil) (.node [] none (.node [.mask [1, 2, 3, 4], .auto 0] (some (Qp Qc.l0.T Qc.l0.os (Qc.l0 k k))) .nil .nil) (.nil))) (.nil)))
theorem Qc.body (k : Nat) : Q0W (Qc.ctx k) Tryz.f101 (Func.code Tryz.f101) (Qc.ann k) Qc.tin Qc.tout (fun x K => Qc.c k x.1 K) := by
 intro ρ x K; kernel_rfl
theorem Qc.sem_ok (k : Nat) : QI Tryz.prog 101 (Qc.sem k) :=
 QG (C := Qc.ctx k) (Qc.gok k) Tryz.mix (c := Func.code Tryz.f101) (ann := Qc.ann k) (tin := Qc.tin) (tout := Qc.tout) (fun x K => Qc.c k x.1 K) Tryz.func101 (by kernel_rfl) (by kernel_rfl) (Q1.seq Q1.nil (Q1.seq Q1.nil (Q1.seq (Q1.seq Q1.nil (Q1.block (Q1.loop (by kernel_rfl) (Qc.l0.ok k)))) Q1.nil))) (Qc.body k)
abbrev Qe.l1.σ : Type := ByteArray × Int × Int × (List Int) × (List Int) × (List Int) × Unit
abbrev Qe.l1.τ : Type := (ByteArray × Int × (List Int) × (List Int) × (List Int) × Unit)
def Qe.l1.r (k : Nat) {ρ : Type} (x : Qe.l1.σ) (kn : Qe.l1.σ → Option ρ) (ke : Qe.l1.τ → Option ρ) : Option ρ :=
 bif (decide (x.2.2.1 < (64 : Int))) then (let v5 : Int := (IntKind.wrap IntKind.i64 (x.2.1 + x.2.2.1))
 bif (decide (((0 : Int) ≤ v5) ∧ (v5 < (((ByteArray.size x.1) : Nat) : Int)))) then (let v6 : Int := (Q1v x.1 (Int.toNat v5))
 bif (decide (((0 : Int) ≤ x.2.2.1) ∧ (x.2.2.1 < ((64 : Nat) : Int)))) then (let v7 : Int := (IntKind.wrap IntKind.i64 (x.2.2.1 + (1 : Int)))
 kn (x.1, (x.2.1, (v7, (x.2.2.2.1, (x.2.2.2.2.1, ((List.set x.2.2.2.2.2.1 (Int.toNat x.2.2.1) v6), ()))))))) else (none)) else (none)) else (ke (x.1, (x.2.1, (x.2.2.2.1, (x.2.2.2.2.1, (x.2.2.2.2.2.1, ()))))))
def Qe.l1 (k : Nat) : Nat → Qe.l1.σ → Option Qe.l1.τ := Q15 (Qe.l1.r k)
def Qe.l1.T : StT := ⟨.dat .str :: us 1 ++ .ptr 0 [] :: .ptr 1 [] :: .dat (.int .i64) :: .ptr 2 [] :: .dat (.int .i64) :: us 30, [.dat QgY, .dat QgW, .dat QgX]⟩
def Qe.l1.os : List Out := [⟨(.exit 2), [.mask [0, 2, 3, 4, 5], .auto 0], ⟨.dat .str :: us 1 ++ .ptr 0 [] :: .ptr 1 [] :: .dat (.int .i64) :: .ptr 2 [] :: us 31, [.dat QgY, .dat QgW, .dat QgX]⟩⟩]
abbrev Qe.l0.σ : Type := ByteArray × Int × (List Int) × (List Int) × Unit
abbrev Qe.l0.τ : Type := QgT 
def Qe.l0.r (k : Nat) {ρ : Type} (x : Qe.l0.σ) (kn : Qe.l0.σ → Option ρ) (ke : Qe.l0.τ → Option ρ) : Option ρ :=
 let v3 : Int := (((ByteArray.size x.1) : Nat) : Int)
 bif (decide (x.2.1 < v3)) then (let v4 : (List Int) := (List.replicate 64 (0 : Int))
 (Qe.l1 k k (x.1, (x.2.1, ((0 : Int), (x.2.2.1, (x.2.2.2.1, (v4, ()))))))).bind fun t8 => let v9 : (List Int) := t8.2.2.2.1
 let v10 : (List Int) := t8.2.2.2.2.1
 (Q4 k v9 v10).bind fun t11 => let v12 : Int := (IntKind.wrap IntKind.i64 (t8.2.1 + (64 : Int)))
 kn (t8.1, (v12, (t8.2.2.1, (t11.1, ()))))) else (ke (x.2.2.1, (x.2.2.2.1, ())))
def Qe.l0 (k : Nat) : Nat → Qe.l0.σ → Option Qe.l0.τ := Q15 (Qe.l0.r k)
def Qe.l0.T : StT := ⟨.dat .str :: us 1 ++ .ptr 0 [] :: .ptr 1 [] :: .dat (.int .i64) :: us 32, [.dat QgY, .dat QgW]⟩
def Qe.l0.os : List Out := [⟨(.exit 0), [.mask [2, 3], .auto 0], ⟨us 2 ++ .ptr 0 [] :: .ptr 1 [] :: us 33, [.dat QgY, .dat QgW]⟩⟩]
def Qe.c (k : Nat) {ρ : Type} (s : ByteArray) (K : (List Int) × Unit → Option ρ) : Option ρ :=
 (Qf k (IntKind.wrap IntKind.u64 (((ByteArray.size s) : Nat) : Int))).bind fun t0 => bif (Nat.ble ((ByteArray.size s) + (ByteArray.size t0.1)) 9223372036854775807) then (let v1 : ByteArray := (s ++ t0.1)
 (Q0B k ).bind fun t2 => (Qe.l0 k k (v1, ((0 : Int), ((List.replicate 32 (0 : Int)), (t2.1, ()))))).bind fun t13 => let v14 : (List Int) := t13.2.1
 (Qc k v14).bind fun t15 => K (t15.1, ())) else (none)
def Qe (k : Nat) (s : ByteArray) : Option QgZ := Qe.c k s some
def Qe.tin : List Ty := [.str]
def Qe.tout : List Ty := [QgY]
def Qe.sem (k : Nat) : QT := Q00 Qe.tin Qe.tout fun x => Qe k x.1
noncomputable def Qe.ctx (k : Nat) : Ctx := ⟨Tryz.prog, gam [(98, (Qf.sem k)), (99, (Q0B.sem k)), (100, (Q4.sem k)), (101, (Qc.sem k))]⟩
theorem Qe.gok (k : Nat) : ∀ f, QI Tryz.prog f ((Qe.ctx k).Γ f) := (Ql (Qf.sem_ok k) (Ql (Q0B.sem_ok k) (Ql (Q4.sem_ok k) (Ql (Qc.sem_ok k) Q01))))
theorem Qe.l1.round (k : Nat) : Q14 (Qe.ctx k) (QP (Func.code Tryz.f64) [1, 1, 1, 0, 1, 0, 0, 1, 0, 0, 1, 0, 1, 0, 0]) (.nil) Qe.l1.T [.mask [0, 2, 3, 4, 5, 6], .auto 0] Qe.l1.os (Qe.l1.r k) := by
 intro ρ x kn ke; kernel_rfl
theorem Qe.l1.ok (k : Nat) : StOK 0 Tryz.prog (.loop (QP (Func.code Tryz.f64) [1, 1, 1, 0, 1, 0, 0, 1, 0, 0, 1, 0, 1, 0, 0])) (Qp Qe.l1.T Qe.l1.os (Qe.l1 k k)) :=
 Q16 (C := Qe.ctx k) (Qe.gok k) Tryz.mix Q1.nil (by kernel_rfl) (by kernel_rfl) (by kernel_rfl) (Qe.l1.round k) k
theorem Qe.l0.round (k : Nat) : Q14 (Qe.ctx k) (QP (Func.code Tryz.f64) [1, 1, 1, 0, 1, 0, 0]) (.node [] none (.nil) (.node [] none (.node [] none (.node [] none (.nil) (.node [] none (.node [] none (.nil) (.node [] none (.node [.mask [0, 2, 3, 4, 5, 6], .auto 0] (some (Qp Qe.l1.T Qe.l1.os (Qe.l1 k k))) .nil .nil) (.nil))) (.nil))) (.nil)) (.nil))) Qe.l0.T [.mask [0, 2, 3, 4], .auto 0] Qe.l0.os (Qe.l0.r k) := by
 intro ρ x kn ke; kernel_rfl
theorem Qe.l0.ok (k : Nat) : StOK 0 Tryz.prog (.loop (QP (Func.code Tryz.f64) [1, 1, 1, 0, 1, 0, 0])) (Qp Qe.l0.T Qe.l0.os (Qe.l0 k k)) :=
 Q16 (C := Qe.ctx k) (Qe.gok k) Tryz.mix (Q1.seq Q1.nil (Q1.seq (Q1.block (Q1.seq Q1.nil (Q1.seq (Q1.seq Q1.nil (Q1.block (Q1.loop (by kernel_rfl) (Qe.l1.ok k)))) Q1.nil))) Q1.nil)) (by kernel_rfl) (by kernel_rfl) (by kernel_rfl) (Qe.l0.round k) k
def Qe.ann (k : Nat) : Ann := .node [] none (.nil) (.node [] none (.nil) (.node [] none (.nil) (.node [] none (.node [] none (.nil) (.node [] none (.node [.mask [0, 2, 3, 4], .auto 0] (some (Qp Qe.l0.T Qe.l0.os (Qe.l0 k k))) .nil .nil) (.nil))) (.nil))))
theorem Qe.body (k : Nat) : Q0W (Qe.ctx k) Tryz.f64 (Func.code Tryz.f64) (Qe.ann k) Qe.tin Qe.tout (fun x K => Qe.c k x.1 K) := by
 intro ρ x K; kernel_rfl
theorem Qe.sem_ok (k : Nat) : QI Tryz.prog 64 (Qe.sem k) :=
 QG (C := Qe.ctx k) (Qe.gok k) Tryz.mix (c := Func.code Tryz.f64) (ann := Qe.ann k) (tin := Qe.tin) (tout := Qe.tout) (fun x K => Qe.c k x.1 K) Tryz.func64 (by kernel_rfl) (by kernel_rfl) (Q1.seq Q1.nil (Q1.seq Q1.nil (Q1.seq Q1.nil (Q1.seq (Q1.seq Q1.nil (Q1.block (Q1.loop (by kernel_rfl) (Qe.l0.ok k)))) Q1.nil)))) (Qe.body k)
def Q0r.c (k : Nat) {ρ : Type} (s : ByteArray) (K : (List Int) × Unit → Option ρ) : Option ρ :=
 (Qe k s).bind fun t0 => let v1 : ByteArray := (bytesOf (List.take 32 (List.drop 0 t0.1)))
 (Qe k v1).bind fun t2 => K (t2.1, ())
def Q0r (k : Nat) (s : ByteArray) : Option QgZ := Q0r.c k s some
def Q0r.tin : List Ty := [.str]
def Q0r.tout : List Ty := [QgY]
def Q0r.sem (k : Nat) : QT := Q00 Q0r.tin Q0r.tout fun x => Q0r k x.1
noncomputable def Q0r.ctx (k : Nat) : Ctx := ⟨Tryz.prog, gam [(64, (Qe.sem k))]⟩
theorem Q0r.gok (k : Nat) : ∀ f, QI Tryz.prog f ((Q0r.ctx k).Γ f) := (Ql (Qe.sem_ok k) Q01)
def Q0r.ann (k : Nat) : Ann := .nil
theorem Q0r.body (k : Nat) : Q0W (Q0r.ctx k) Tryz.f37 (Func.code Tryz.f37) (Q0r.ann k) Q0r.tin Q0r.tout (fun x K => Q0r.c k x.1 K) := by
 intro ρ x K; kernel_rfl
theorem Q0r.sem_ok (k : Nat) : QI Tryz.prog 37 (Q0r.sem k) :=
 QG (C := Q0r.ctx k) (Q0r.gok k) Tryz.mix (c := Func.code Tryz.f37) (ann := Q0r.ann k) (tin := Q0r.tin) (tout := Q0r.tout) (fun x K => Q0r.c k x.1 K) Tryz.func37 (by kernel_rfl) (by kernel_rfl) Q1.nil (Q0r.body k)
end Go.Am
