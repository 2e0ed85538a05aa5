/- A part of a proof: a machine of abstract values that tells what functions of the program compute, and the plain facts on them. -/
import Derived.Test.YtnibopdcpbebcaaGreatAm5
import Derived.Test.YtnibopdcpbebcaaGreatRows
import Derived.KernelRfl
import Derived.Test.YtnibopdcpbebcaaGreatProg
import Derived.Test.YtnibopdcpbebcaaGreatAm6
set_option linter.unusedVariables false
set_option linter.unusedSimpArgs false
set_option linter.unnecessarySimpa false
set_option linter.unusedSectionVars false
namespace Go.Am
abbrev QfD : Type := ((List Int) × Unit)
abbrev QfC : Ty := (.arr 32 (.int .u8))
abbrev QfB : Ty := (.arr 64 (.int .u8))
abbrev QfA : Ty := (.arr 8 (.int .u32))
abbrev Qfz : Ty := (.arr 64 (.int .u32))
abbrev Qfy : Ty := (.pair (.int .u64) .unit)
abbrev Qfx : Type := ((List Int) × (List Int) × Unit)
abbrev Qfw : Type := ((List Int) × (Unit × (Int × Unit)))
abbrev Qfv : Type := ((List Int) × (List Int) × (List Int) × Unit)
abbrev Qfu : Type := ( Qfw  × (List Int) × Unit)
end Go.Am
namespace Go.Proofs.YtnibopdcpbebcaaGreat
open Go.RowKit Go.Am
theorem Tryz.own : ownKnob Tryz.prog.godebug = none := by kernel_rfl
theorem Tryz.laidOut : laidOutB Tryz.prog = true := by kernel_rfl
end Go.Proofs.YtnibopdcpbebcaaGreat
namespace Go.Am
open Go
theorem Qd3 {p : Int → Prop} {l : List Int} (h : ∀ i, i < l.length → p (l.getD i 0)) : ∀ x ∈ l, p x := by
 intro x hx
 obtain ⟨i, hi, rfl⟩ := List.getElem_of_mem hx
 have := h i hi
 rw [List.getD_eq_getElem?_getD] at this
 simpa [hi] using this
theorem QdW : reachBytes = 140737488351232 := rfl
end Go.Am
namespace Go.Am
open Go Go.Proofs
theorem _root_.Go.Proofs.Tryz.mix : Tryz.prog.follows .mixedOrders = true := by kernel_rfl
end Go.Am
namespace Go.Am
open Go Go.Proofs Go.Shelf
set_option maxRecDepth 100000
def Bld.fs : List (Nat × Nat) := [(240, 110), (276, 122), (169, 57)]
def Bld.ts : List (Nat × Nat) := [(72, 109), (70, 107), (164, 203), (37, 78), (127, 164)]
def Bld.look : List (Nat × Nat) → Nat → Nat
 | [], n => n
 | (a, b) :: l, n => if n = a then b else Bld.look l n
def Bld.ren : Ren := ⟨Bld.look Bld.fs, Bld.look Bld.ts, fun n => n⟩
theorem Bld.lays240 : Lays.n240 Tryz.prog Bld.ren := by
 constructor <;> first | kernel_rfl | (intro w; kernel_rfl)
theorem Bld.lays169 : Lays.n169 Tryz.prog Bld.ren := by
 constructor <;> first | kernel_rfl | (intro w; kernel_rfl)
theorem Bld.x72 : Builder.X72 Tryz.prog Bld.ren where
 sizeBuilder := by kernel_rfl
 liesBuilder := by kernel_rfl
theorem Bld.extra : Builder.Extra Tryz.prog Bld.ren where
 sizeBuilder := by kernel_rfl
 liesBuilder := by kernel_rfl
 t5 := by kernel_rfl
 a5 := fun w => by kernel_rfl
 z5 := fun w => by kernel_rfl
 v5 := fun w => by kernel_rfl
 infoByte := by kernel_rfl
 cellsByte := by kernel_rfl
 sizeByte := by kernel_rfl
 neB5 := by decide
theorem Bld.copyCheck : QF Tryz.prog 110 (Qdf 111 2) := Q9B Bld.lays240 Bld.x72 (by kernel_rfl) (by constructor <;> kernel_rfl)
theorem Bld.string : QF Tryz.prog 57 QbH := QcE Bld.lays169 Bld.extra rfl (by constructor <;> kernel_rfl)
end Go.Am
namespace Go.Am
open Go Go.Proofs
set_option maxRecDepth 100000
def Q1q.c (k : Nat) {ρ : Type}  (K : (List Int) × Unit → Option ρ) : Option ρ :=
 let v0 : (List Int) := (List.set (List.set (List.set (List.set (List.set (List.set (List.set (List.set (List.replicate 8 (0 : Int)) 0 (1779033703 : Int)) 1 (3144134277 : Int)) 2 (1013904242 : Int)) 3 (2773480762 : Int)) 4 (1359893119 : Int)) 5 (2600822924 : Int)) 6 (528734635 : Int)) 7 (1541459225 : Int))
 K (v0, ())
def Q1q (k : Nat)  : Option QfD := Q1q.c k  some
def Q1q.tin : List Ty := []
def Q1q.tout : List Ty := [QfA]
def Q1q.sem (k : Nat) : QP := QW Q1q.tin Q1q.tout fun x => Q1q k 
noncomputable def Q1q.ctx (k : Nat) : Ctx := ⟨Tryz.prog, gam []⟩
theorem Q1q.gok (k : Nat) : ∀ f, QF Tryz.prog f ((Q1q.ctx k).Γ f) := QX
def Q1q.ann (k : Nat) : Ann := .nil
theorem Q1q.body (k : Nat) : Q0R (Q1q.ctx k) Tryz.f111 (Func.code Tryz.f111) (Q1q.ann k) Q1q.tin Q1q.tout (fun x K => Q1q.c k  K) := by
 intro ρ x K; kernel_rfl
theorem Q1q.sem_ok (k : Nat) : QF Tryz.prog 111 (Q1q.sem k) :=
 QD (C := Q1q.ctx k) (Q1q.gok k) Tryz.mix (c := Func.code Tryz.f111) (ann := Q1q.ann k) (tin := Q1q.tin) (tout := Q1q.tout) (fun x K => Q1q.c k  K) Tryz.func111 (by kernel_rfl) (by kernel_rfl) Q1.nil (Q1q.body k)
abbrev Q1B.τ : Type := (Qfw × Unit)
def Q1B.c (k : Nat) {ρ : Type}  (K : Q1B.τ → Option ρ) : Option ρ :=
 (Q1q k ).bind fun t0 => K ((t0.1, ((), ((0 : Int), ()))), ())
def Q1B (k : Nat)  : Option Q1B.τ := Q1B.c k  some
def Q1B.T : Q1T := ⟨[], [], 0⟩
def Q1B.os : List Out := [⟨.ret, [.auto 0], ⟨[.ptr 0 []], [.pair (.dat QfA) (.pair (.nils) (.dat Qfy))]⟩⟩]
def Q1B.sem (k : Nat) : QP := Q24 Q1B.T Q1B.os fun x => Q1B k 
noncomputable def Q1B.ctx (k : Nat) : Ctx := ⟨Tryz.prog, gam [(111, (Q1q.sem k))]⟩
theorem Q1B.gok (k : Nat) : ∀ f, QF Tryz.prog f ((Q1B.ctx k).Γ f) := (Qk (Q1q.sem_ok k) QX)
def Q1B.ann (k : Nat) : Ann := .nil
theorem Q1B.body (k : Nat) : Q23 (Q1B.ctx k) Tryz.f91 (Func.code Tryz.f91) (Q1B.ann k) Q1B.T Q1B.os (fun x K => Q1B.c k  K) := by
 intro ρ x K; kernel_rfl
theorem Q1B.sem_ok (k : Nat) : QF Tryz.prog 91 (Q1B.sem k) :=
 Q1x (C := Q1B.ctx k) (Q1B.gok k) Tryz.mix (c := Func.code Tryz.f91) (ann := Q1B.ann k) (T := Q1B.T) (os := Q1B.os) (fun x K => Q1B.c k  K) Tryz.func91 (by kernel_rfl) (by kernel_rfl) Q1.nil (Q1B.body k) (by kernel_rfl) (by kernel_rfl) (by kernel_rfl)
def QV.c (k : Nat) {ρ : Type} (x_0 : Int) (k_1 : Int) (K : Int × Unit → Option ρ) : Option ρ :=
 let v0 : Int := (Q0S BinOp.and IntKind.u64 (IntKind.wrap IntKind.u64 k_1) (31 : Int))
 bif (decide ((0 : Int) ≤ v0)) then (let v1 : Int := (IntKind.wrap IntKind.u64 ((32 : Int) - v0))
 bif (decide ((0 : Int) ≤ v1)) then (let v2 : Int := (Q0S BinOp.or IntKind.u32 (Q1W IntKind.u32 x_0 v0) (Q1H IntKind.u32 x_0 v1))
 K (v2, ())) else (none)) else (none)
def QV (k : Nat) (x_0 : Int) (k_1 : Int) : Option (Int × Unit) := QV.c k x_0 k_1 some
def QV.tin : List Ty := [(.int .u32), (.int .i64)]
def QV.tout : List Ty := [(.int .u32)]
def QV.sem (k : Nat) : QP := QW QV.tin QV.tout fun x => QV k x.1 x.2.1
noncomputable def QV.ctx (k : Nat) : Ctx := ⟨Tryz.prog, gam []⟩
theorem QV.gok (k : Nat) : ∀ f, QF Tryz.prog f ((QV.ctx k).Γ f) := QX
def QV.ann (k : Nat) : Ann := .nil
theorem QV.body (k : Nat) : Q0R (QV.ctx k) Tryz.f132 (Func.code Tryz.f132) (QV.ann k) QV.tin QV.tout (fun x K => QV.c k x.1 x.2.1 K) := by
 intro ρ x K; kernel_rfl
theorem QV.sem_ok (k : Nat) : QF Tryz.prog 132 (QV.sem k) :=
 QD (C := QV.ctx k) (QV.gok k) Tryz.mix (c := Func.code Tryz.f132) (ann := QV.ann k) (tin := QV.tin) (tout := QV.tout) (fun x K => QV.c k x.1 x.2.1 K) Tryz.func132 (by kernel_rfl) (by kernel_rfl) Q1.nil (QV.body k)
def Q0Z.c (k : Nat) {ρ : Type} (x_0 : Int) (n : Int) (K : Int × Unit → Option ρ) : Option ρ :=
 let v0 : Int := (IntKind.wrap IntKind.i64 ((0 : Int) - n))
 (QV k x_0 v0).bind fun t1 => K (t1.1, ())
def Q0Z (k : Nat) (x_0 : Int) (n : Int) : Option (Int × Unit) := Q0Z.c k x_0 n some
def Q0Z.tin : List Ty := [(.int .u32), (.int .i64)]
def Q0Z.tout : List Ty := [(.int .u32)]
def Q0Z.sem (k : Nat) : QP := QW Q0Z.tin Q0Z.tout fun x => Q0Z k x.1 x.2.1
noncomputable def Q0Z.ctx (k : Nat) : Ctx := ⟨Tryz.prog, gam [(132, (QV.sem k))]⟩
theorem Q0Z.gok (k : Nat) : ∀ f, QF Tryz.prog f ((Q0Z.ctx k).Γ f) := (Qk (QV.sem_ok k) QX)
def Q0Z.ann (k : Nat) : Ann := .nil
theorem Q0Z.body (k : Nat) : Q0R (Q0Z.ctx k) Tryz.f125 (Func.code Tryz.f125) (Q0Z.ann k) Q0Z.tin Q0Z.tout (fun x K => Q0Z.c k x.1 x.2.1 K) := by
 intro ρ x K; kernel_rfl
theorem Q0Z.sem_ok (k : Nat) : QF Tryz.prog 125 (Q0Z.sem k) :=
 QD (C := Q0Z.ctx k) (Q0Z.gok k) Tryz.mix (c := Func.code Tryz.f125) (ann := Q0Z.ann k) (tin := Q0Z.tin) (tout := Q0Z.tout) (fun x K => Q0Z.c k x.1 x.2.1 K) Tryz.func125 (by kernel_rfl) (by kernel_rfl) Q1.nil (Q0Z.body k)
abbrev Qx.l1.σ : Type := Int × Int × (Nat × Nat) × Int × Int × (List Int) × (List Int) × (List Int) × Unit
abbrev Qx.l1.τ : Type := (Int × (List Int) × (List Int) × (List Int) × Unit)
def Qx.l1.r (k : Nat) {ρ : Type} (x : Qx.l1.σ) (kn : Qx.l1.σ → Option ρ) (ke : Qx.l1.τ → Option ρ) : Option ρ :=
 bif (decide (x.2.2.2.2.1 < x.2.2.2.1)) then (bif (decide (((0 : Int) ≤ x.2.2.2.2.1) ∧ (x.2.2.2.2.1 < ((x.2.2.1.2 : Nat) : Int)))) then (let v4 : Int := (List.getD x.2.2.2.2.2.1 (x.2.2.1.1 + (Int.toNat x.2.2.2.2.1)) (0 : Int))
 bif (decide (((0 : Int) ≤ x.1) ∧ (x.1 < ((64 : Nat) : Int)))) then (let v5 : Int := (List.getD x.2.2.2.2.2.2.2.1 (Int.toNat x.1) (0 : Int))
 let v6 : Int := (Q1W IntKind.u32 v5 (8 : Int))
 bif (decide (((0 : Int) ≤ x.1) ∧ (x.1 < ((64 : Nat) : Int)))) then (let v7 : Int := (IntKind.wrap IntKind.i64 (x.2.2.2.2.1 + (1 : Int)))
 kn (x.1, (x.2.1, ((x.2.2.1.1, x.2.2.1.2), (x.2.2.2.1, (v7, (x.2.2.2.2.2.1, (x.2.2.2.2.2.2.1, ((List.set x.2.2.2.2.2.2.2.1 (Int.toNat x.1) (Q0S BinOp.or IntKind.u32 v6 (IntKind.wrap IntKind.u32 v4))), ()))))))))) else (none)) else (none)) else (none)) else (ke (x.2.1, (x.2.2.2.2.2.1, (x.2.2.2.2.2.2.1, (x.2.2.2.2.2.2.2.1, ())))))
def Qx.l1 (k : Nat) : Nat → Qx.l1.σ → Option Qx.l1.τ := Q14 (Qx.l1.r k)
def Qx.l1.T : StT := ⟨.ptr 0 [] :: us 1 ++ .ptr 1 [] :: .ptr 2 [] :: .dat (.int .i64) :: us 7 ++ .dat (.int .i64) :: us 9 ++ .slr 0 [] :: .dat (.int .i64) :: .dat (.int .i64) :: us 58, [.dat QfB, .dat Qfz, .dat Qfz]⟩
def Qx.l1.os : List Out := [⟨(.exit 2), [.mask [0, 2, 3, 12], .auto 1], ⟨.ptr 0 [] :: us 1 ++ .ptr 1 [] :: .ptr 2 [] :: us 8 ++ .dat (.int .i64) :: us 70, [.dat QfB, .dat Qfz, .dat Qfz]⟩⟩]
abbrev Qx.l0.σ : Type := Int × (List Int) × (List Int) × (List Int) × Unit
abbrev Qx.l0.τ : Type := Qfv 
def Qx.l0.r (k : Nat) {ρ : Type} (x : Qx.l0.σ) (kn : Qx.l0.σ → Option ρ) (ke : Qx.l0.τ → Option ρ) : Option ρ :=
 bif (decide (x.1 < (16 : Int))) then (let v0 : Int := (IntKind.wrap IntKind.i64 ((4 : Int) * x.1))
 let v1 : Int := (IntKind.wrap IntKind.i64 (x.1 + (1 : Int)))
 let v2 : Int := (IntKind.wrap IntKind.i64 ((4 : Int) * v1))
 bif (decide (((0 : Int) ≤ v0) ∧ ((v0 ≤ v2) ∧ (v2 ≤ ((64 : Nat) : Int))))) then (let v3 : Int := (((Int.toNat (v2 - v0)) : Nat) : Int)
 (Qx.l1 k k (x.1, (x.1, (((Int.toNat v0), (Int.toNat (v2 - v0))), (v3, ((0 : Int), (x.2.1, (x.2.2.1, (x.2.2.2.1, ()))))))))).bind fun t8 => let v9 : Int := (IntKind.wrap IntKind.i64 (t8.1 + (1 : Int)))
 kn (v9, (t8.2.1, (t8.2.2.1, (t8.2.2.2.1, ()))))) else (none)) else (ke (x.2.1, (x.2.2.1, (x.2.2.2.1, ()))))
def Qx.l0 (k : Nat) : Nat → Qx.l0.σ → Option Qx.l0.τ := Q14 (Qx.l0.r k)
def Qx.l0.T : StT := ⟨.ptr 0 [] :: us 1 ++ .ptr 1 [] :: .ptr 2 [] :: us 8 ++ .dat (.int .i64) :: us 70, [.dat QfB, .dat Qfz, .dat Qfz]⟩
def Qx.l0.os : List Out := [⟨(.exit 0), [.mask [2, 3], .auto 1], ⟨us 2 ++ .ptr 1 [] :: .ptr 2 [] :: us 79, [.dat QfB, .dat Qfz, .dat Qfz]⟩⟩]
abbrev Qx.l2.σ : Type := Int × (List Int) × (List Int) × (List Int) × Unit
abbrev Qx.l2.τ : Type := Qfv 
def Qx.l2.r (k : Nat) {ρ : Type} (x : Qx.l2.σ) (kn : Qx.l2.σ → Option ρ) (ke : Qx.l2.τ → Option ρ) : Option ρ :=
 bif (decide (x.1 < (64 : Int))) then (let v11 : Int := (IntKind.wrap IntKind.i64 (x.1 - (2 : Int)))
 bif (decide (((0 : Int) ≤ v11) ∧ (v11 < ((64 : Nat) : Int)))) then (let v12 : Int := (List.getD x.2.2.2.1 (Int.toNat v11) (0 : Int))
 let v13 : Int := (IntKind.wrap IntKind.i64 (x.1 - (15 : Int)))
 bif (decide (((0 : Int) ≤ v13) ∧ (v13 < ((64 : Nat) : Int)))) then (let v14 : Int := (List.getD x.2.2.2.1 (Int.toNat v13) (0 : Int))
 (Q0Z k v12 (17 : Int)).bind fun t15 => (Q0Z k v12 (19 : Int)).bind fun t16 => let v17 : Int := (Q0S BinOp.xor IntKind.u32 t15.1 t16.1)
 let v18 : Int := (Q1H IntKind.u32 v12 (10 : Int))
 (Q0Z k v14 (7 : Int)).bind fun t19 => (Q0Z k v14 (18 : Int)).bind fun t20 => let v21 : Int := (Q0S BinOp.xor IntKind.u32 t19.1 t20.1)
 let v22 : Int := (Q1H IntKind.u32 v14 (3 : Int))
 let v23 : Int := (IntKind.wrap IntKind.i64 (x.1 - (7 : Int)))
 bif (decide (((0 : Int) ≤ v23) ∧ (v23 < ((64 : Nat) : Int)))) then (let v24 : Int := (List.getD x.2.2.2.1 (Int.toNat v23) (0 : Int))
 let v25 : Int := (IntKind.wrap IntKind.u32 ((Q0S BinOp.xor IntKind.u32 v17 v18) + v24))
 let v26 : Int := (IntKind.wrap IntKind.u32 (v25 + (Q0S BinOp.xor IntKind.u32 v21 v22)))
 let v27 : Int := (IntKind.wrap IntKind.i64 (x.1 - (16 : Int)))
 bif (decide (((0 : Int) ≤ v27) ∧ (v27 < ((64 : Nat) : Int)))) then (let v28 : Int := (List.getD x.2.2.2.1 (Int.toNat v27) (0 : Int))
 let v29 : Int := (IntKind.wrap IntKind.u32 (v26 + v28))
 bif (decide (((0 : Int) ≤ x.1) ∧ (x.1 < ((64 : Nat) : Int)))) then (let v30 : Int := (IntKind.wrap IntKind.i64 (x.1 + (1 : Int)))
 kn (v30, (x.2.1, (x.2.2.1, ((List.set x.2.2.2.1 (Int.toNat x.1) v29), ()))))) else (none)) else (none)) else (none)) else (none)) else (none)) else (ke (x.2.1, (x.2.2.1, (x.2.2.2.1, ()))))
def Qx.l2 (k : Nat) : Nat → Qx.l2.σ → Option Qx.l2.τ := Q14 (Qx.l2.r k)
def Qx.l2.T : StT := ⟨us 2 ++ .ptr 1 [] :: .ptr 2 [] :: us 3 ++ .dat (.int .i64) :: us 75, [.dat QfB, .dat Qfz, .dat Qfz]⟩
def Qx.l2.os : List Out := [⟨(.exit 4), [.mask [2, 3], .auto 1], ⟨us 2 ++ .ptr 1 [] :: .ptr 2 [] :: us 79, [.dat QfB, .dat Qfz, .dat Qfz]⟩⟩]
abbrev Qx.τ : Type := Qfx 
def Qx.c (k : Nat) {ρ : Type} (b0 : (List Int)) (K : Qx.τ → Option ρ) : Option ρ :=
 (Qx.l0 k k ((0 : Int), (b0, ((List.replicate 64 (0 : Int)), ((List.replicate 64 (0 : Int)), ()))))).bind fun t10 => (Qx.l2 k k ((16 : Int), (t10.1, (t10.2.1, (t10.2.2.1, ()))))).bind fun t31 => let v32 : (List Int) := t31.2.2.1
 K (v32, (t31.1, ()))
def Qx (k : Nat) (b0 : (List Int)) : Option Qx.τ := Qx.c k b0 some
def Qx.T : Q1T := ⟨[.ptr 0 []], [.dat QfB], 1⟩
def Qx.os : List Out := [⟨.ret, [.freeze (.slot 0), .auto 1], ⟨[.dat Qfz], [.dat QfB]⟩⟩]
def Qx.sem (k : Nat) : QP := Q24 Qx.T Qx.os fun x => Qx k x.1
noncomputable def Qx.ctx (k : Nat) : Ctx := ⟨Tryz.prog, gam [(125, (Q0Z.sem k))]⟩
theorem Qx.gok (k : Nat) : ∀ f, QF Tryz.prog f ((Qx.ctx k).Γ f) := (Qk (Q0Z.sem_ok k) QX)
theorem Qx.l1.round (k : Nat) : Q10 (Qx.ctx k) (QM (Func.code Tryz.f123) [1, 1, 0, 1, 0, 0, 1, 1, 0, 0, 1, 1, 0, 0]) (.nil) Qx.l1.T [.mask [0, 2, 3, 4, 12, 22, 23, 24], .auto 1] Qx.l1.os (Qx.l1.r k) := by
 intro ρ x kn ke; kernel_rfl
theorem Qx.l1.ok (k : Nat) : StOK 1 Tryz.prog (.loop (QM (Func.code Tryz.f123) [1, 1, 0, 1, 0, 0, 1, 1, 0, 0, 1, 1, 0, 0])) (Qn Qx.l1.T Qx.l1.os (Qx.l1 k k)) :=
 Q11 (C := Qx.ctx k) (Qx.gok k) Tryz.mix Q1.nil (by kernel_rfl) (by kernel_rfl) (by kernel_rfl) (Qx.l1.round k) k
theorem Qx.l0.round (k : Nat) : Q10 (Qx.ctx k) (QM (Func.code Tryz.f123) [1, 1, 0, 1, 0, 0]) (.node [] none (.nil) (.node [] none (.nil) (.node [] none (.node [] none (.node [] none (.nil) (.node [] none (.nil) (.node [] none (.node [.mask [0, 2, 3, 4, 12, 22, 23, 24], .auto 1] (some (Qn Qx.l1.T Qx.l1.os (Qx.l1 k k))) .nil .nil) (.nil)))) (.nil)) (.nil)))) Qx.l0.T [.mask [0, 2, 3, 12], .auto 1] Qx.l0.os (Qx.l0.r k) := by
 intro ρ x kn ke; kernel_rfl
theorem Qx.l0.ok (k : Nat) : StOK 1 Tryz.prog (.loop (QM (Func.code Tryz.f123) [1, 1, 0, 1, 0, 0])) (Qn Qx.l0.T Qx.l0.os (Qx.l0 k k)) :=
 Q11 (C := Qx.ctx k) (Qx.gok k) Tryz.mix (Q1.seq Q1.nil (Q1.seq Q1.nil (Q1.seq (Q1.block (Q1.seq Q1.nil (Q1.seq Q1.nil (Q1.block (Q1.loop (by kernel_rfl) (Qx.l1.ok k)))))) Q1.nil))) (by kernel_rfl) (by kernel_rfl) (by kernel_rfl) (Qx.l0.round k) k
theorem Qx.l2.round (k : Nat) : Q10 (Qx.ctx k) (QM (Func.code Tryz.f123) [1, 1, 1, 0, 1, 0, 0]) (.nil) Qx.l2.T [.mask [2, 3, 7], .auto 1] Qx.l2.os (Qx.l2.r k) := by
 intro ρ x kn ke; kernel_rfl
theorem Qx.l2.ok (k : Nat) : StOK 1 Tryz.prog (.loop (QM (Func.code Tryz.f123) [1, 1, 1, 0, 1, 0, 0])) (Qn Qx.l2.T Qx.l2.os (Qx.l2 k k)) :=
 Q11 (C := Qx.ctx k) (Qx.gok k) Tryz.mix Q1.nil (by kernel_rfl) (by kernel_rfl) (by kernel_rfl) (Qx.l2.round k) k
def Qx.ann (k : Nat) : Ann := .node [] none (.nil) (.node [] none (.nil) (.node [] none (.node [] none (.nil) (.node [] none (.node [.mask [0, 2, 3, 12], .auto 1] (some (Qn Qx.l0.T Qx.l0.os (Qx.l0 k k))) .nil .nil) (.nil))) (.node [] none (.node [] none (.nil) (.node [] none (.node [.mask [2, 3, 7], .auto 1] (some (Qn Qx.l2.T Qx.l2.os (Qx.l2 k k))) .nil .nil) (.nil))) (.nil))))
theorem Qx.body (k : Nat) : Q23 (Qx.ctx k) Tryz.f123 (Func.code Tryz.f123) (Qx.ann k) Qx.T Qx.os (fun x K => Qx.c k x.1 K) := by
 intro ρ x K; kernel_rfl
theorem Qx.sem_ok (k : Nat) : QF Tryz.prog 123 (Qx.sem k) :=
 Q1x (C := Qx.ctx k) (Qx.gok k) Tryz.mix (c := Func.code Tryz.f123) (ann := Qx.ann k) (T := Qx.T) (os := Qx.os) (fun x K => Qx.c k x.1 K) Tryz.func123 (by kernel_rfl) (by kernel_rfl) (Q1.seq Q1.nil (Q1.seq Q1.nil (Q1.seq (Q1.seq Q1.nil (Q1.block (Q1.loop (by kernel_rfl) (Qx.l0.ok k)))) (Q1.seq (Q1.seq Q1.nil (Q1.block (Q1.loop (by kernel_rfl) (Qx.l2.ok k)))) Q1.nil)))) (Qx.body k) (by kernel_rfl) (by kernel_rfl) (by kernel_rfl)
abbrev Q0T.τ : Type := QfD 
def Q0T.c (k : Nat) {ρ : Type}  (K : Q0T.τ → Option ρ) : Option ρ :=
 let v0 : (List Int) := (List.set (List.set (List.set (List.set (List.set (List.set (List.set (List.set (List.set (List.set (List.set (List.set (List.set (List.set (List.set (List.set (List.set (List.set (List.set (List.set (List.set (List.set (List.set (List.set (List.set (List.set (List.set (List.set (List.set (List.set (List.set (List.set (List.set (List.set (List.set (List.set (List.set (List.set (List.set (List.set (List.set (List.set (List.set (List.set (List.set (List.set (List.set (List.set (List.set (List.set (List.set (List.set (List.set (List.set (List.set (List.set (List.set (List.set (List.set (List.set (List.set (List.set (List.set (List.set (List.replicate 64 (0 : Int)) 0 (1116352408 : Int)) 1 (1899447441 : Int)) 2 (3049323471 : Int)) 3 (3921009573 : Int)) 4 (961987163 : Int)) 5 (1508970993 : Int)) 6 (2453635748 : Int)) 7 (2870763221 : Int)) 8 (3624381080 : Int)) 9 (310598401 : Int)) 10 (607225278 : Int)) 11 (1426881987 : Int)) 12 (1925078388 : Int)) 13 (2162078206 : Int)) 14 (2614888103 : Int)) 15 (3248222580 : Int)) 16 (3835390401 : Int)) 17 (4022224774 : Int)) 18 (264347078 : Int)) 19 (604807628 : Int)) 20 (770255983 : Int)) 21 (1249150122 : Int)) 22 (1555081692 : Int)) 23 (1996064986 : Int)) 24 (2554220882 : Int)) 25 (2821834349 : Int)) 26 (2952996808 : Int)) 27 (3210313671 : Int)) 28 (3336571891 : Int)) 29 (3584528711 : Int)) 30 (113926993 : Int)) 31 (338241895 : Int)) 32 (666307205 : Int)) 33 (773529912 : Int)) 34 (1294757372 : Int)) 35 (1396182291 : Int)) 36 (1695183700 : Int)) 37 (1986661051 : Int)) 38 (2177026350 : Int)) 39 (2456956037 : Int)) 40 (2730485921 : Int)) 41 (2820302411 : Int)) 42 (3259730800 : Int)) 43 (3345764771 : Int)) 44 (3516065817 : Int)) 45 (3600352804 : Int)) 46 (4094571909 : Int)) 47 (275423344 : Int)) 48 (430227734 : Int)) 49 (506948616 : Int)) 50 (659060556 : Int)) 51 (883997877 : Int)) 52 (958139571 : Int)) 53 (1322822218 : Int)) 54 (1537002063 : Int)) 55 (1747873779 : Int)) 56 (1955562222 : Int)) 57 (2024104815 : Int)) 58 (2227730452 : Int)) 59 (2361852424 : Int)) 60 (2428436474 : Int)) 61 (2756734187 : Int)) 62 (3204031479 : Int)) 63 (3329325298 : Int))
 K (v0, ())
def Q0T (k : Nat)  : Option Q0T.τ := Q0T.c k  some
def Q0T.T : Q1T := ⟨[], [], 0⟩
def Q0T.os : List Out := [⟨.ret, [.auto 0], ⟨[.ptr 0 []], [.dat Qfz]⟩⟩]
def Q0T.sem (k : Nat) : QP := Q24 Q0T.T Q0T.os fun x => Q0T k 
noncomputable def Q0T.ctx (k : Nat) : Ctx := ⟨Tryz.prog, gam []⟩
theorem Q0T.gok (k : Nat) : ∀ f, QF Tryz.prog f ((Q0T.ctx k).Γ f) := QX
def Q0T.ann (k : Nat) : Ann := .nil
theorem Q0T.body (k : Nat) : Q23 (Q0T.ctx k) Tryz.f124 (Func.code Tryz.f124) (Q0T.ann k) Q0T.T Q0T.os (fun x K => Q0T.c k  K) := by
 intro ρ x K; kernel_rfl
theorem Q0T.sem_ok (k : Nat) : QF Tryz.prog 124 (Q0T.sem k) :=
 Q1x (C := Q0T.ctx k) (Q0T.gok k) Tryz.mix (c := Func.code Tryz.f124) (ann := Q0T.ann k) (T := Q0T.T) (os := Q0T.os) (fun x K => Q0T.c k  K) Tryz.func124 (by kernel_rfl) (by kernel_rfl) Q1.nil (Q0T.body k) (by kernel_rfl) (by kernel_rfl) (by kernel_rfl)
abbrev Q05.l0.σ : Type := Int × (List Int) × (List Int) × (List Int) × (List Int) × (List Int) × Unit
abbrev Q05.l0.τ : Type := Qfv 
def Q05.l0.r (k : Nat) {ρ : Type} (x : Q05.l0.σ) (kn : Q05.l0.σ → Option ρ) (ke : Q05.l0.τ → Option ρ) : Option ρ :=
 bif (decide (x.1 < (64 : Int))) then (let v2 : Int := (List.getD x.2.2.2.2.2.1 0 (0 : Int))
 let v3 : Int := (List.getD x.2.2.2.2.2.1 4 (0 : Int))
 (Q0Z k v3 (6 : Int)).bind fun t4 => (Q0Z k v3 (11 : Int)).bind fun t5 => let v6 : Int := (Q0S BinOp.xor IntKind.u32 t4.1 t5.1)
 (Q0Z k v3 (25 : Int)).bind fun t7 => let v8 : Int := (Q0S BinOp.xor IntKind.u32 v6 t7.1)
 (Q0Z k v2 (2 : Int)).bind fun t9 => (Q0Z k v2 (13 : Int)).bind fun t10 => let v11 : Int := (Q0S BinOp.xor IntKind.u32 t9.1 t10.1)
 (Q0Z k v2 (22 : Int)).bind fun t12 => let v13 : Int := (Q0S BinOp.xor IntKind.u32 v11 t12.1)
 let v14 : Int := (List.getD x.2.2.2.2.2.1 5 (0 : Int))
 let v15 : Int := (List.getD x.2.2.2.2.2.1 6 (0 : Int))
 let v16 : Int := (Q0S BinOp.xor IntKind.u32 (Q0S BinOp.and IntKind.u32 v3 v14) (Q0S BinOp.and IntKind.u32 (notI IntKind.u32 v3) v15))
 let v17 : Int := (List.getD x.2.2.2.2.2.1 1 (0 : Int))
 let v18 : Int := (List.getD x.2.2.2.2.2.1 2 (0 : Int))
 let v19 : Int := (Q0S BinOp.xor IntKind.u32 (Q0S BinOp.and IntKind.u32 v2 v17) (Q0S BinOp.and IntKind.u32 v2 v18))
 let v20 : Int := (List.getD x.2.2.2.2.2.1 1 (0 : Int))
 let v21 : Int := (List.getD x.2.2.2.2.2.1 2 (0 : Int))
 let v22 : Int := (Q0S BinOp.xor IntKind.u32 v19 (Q0S BinOp.and IntKind.u32 v20 v21))
 let v23 : Int := (List.getD x.2.2.2.2.2.1 7 (0 : Int))
 let v24 : Int := (IntKind.wrap IntKind.u32 (v23 + v8))
 let v25 : Int := (IntKind.wrap IntKind.u32 (v24 + v16))
 bif (decide (((0 : Int) ≤ x.1) ∧ (x.1 < ((64 : Nat) : Int)))) then (let v26 : Int := (List.getD x.2.2.2.2.1 (Int.toNat x.1) (0 : Int))
 let v27 : Int := (IntKind.wrap IntKind.u32 (v25 + v26))
 bif (decide (((0 : Int) ≤ x.1) ∧ (x.1 < ((64 : Nat) : Int)))) then (let v28 : Int := (List.getD x.2.2.2.1 (Int.toNat x.1) (0 : Int))
 let v29 : Int := (IntKind.wrap IntKind.u32 (v27 + v28))
 let v30 : Int := (IntKind.wrap IntKind.u32 (v29 + v13))
 let v31 : Int := (IntKind.wrap IntKind.u32 (v30 + v22))
 let v32 : Int := (List.getD x.2.2.2.2.2.1 0 (0 : Int))
 let v33 : Int := (List.getD x.2.2.2.2.2.1 1 (0 : Int))
 let v34 : Int := (List.getD x.2.2.2.2.2.1 2 (0 : Int))
 let v35 : Int := (List.getD x.2.2.2.2.2.1 3 (0 : Int))
 let v36 : Int := (IntKind.wrap IntKind.u32 (v35 + v29))
 let v37 : Int := (List.getD x.2.2.2.2.2.1 4 (0 : Int))
 let v38 : Int := (List.getD x.2.2.2.2.2.1 5 (0 : Int))
 let v39 : Int := (List.getD x.2.2.2.2.2.1 6 (0 : Int))
 let v40 : (List Int) := (List.set (List.set (List.set (List.set (List.set (List.set (List.set (List.set (List.replicate 8 (0 : Int)) 0 v31) 1 v32) 2 v33) 3 v34) 4 v36) 5 v37) 6 v38) 7 v39)
 let v41 : Int := (IntKind.wrap IntKind.i64 (x.1 + (1 : Int)))
 kn (v41, (x.2.1, (x.2.2.1, (x.2.2.2.1, (x.2.2.2.2.1, (v40, ()))))))) else (none)) else (none)) else (ke (x.2.1, (x.2.2.1, (x.2.2.2.2.2.1, ()))))
def Q05.l0 (k : Nat) : Nat → Q05.l0.σ → Option Q05.l0.τ := Q14 (Q05.l0.r k)
def Q05.l0.T : StT := ⟨us 2 ++ .ptr 0 [] :: us 1 ++ .ptr 1 [] :: .ptr 2 [] :: .ptr 3 [] :: .ptr 4 [] :: us 12 ++ .dat (.int .i64) :: us 99, [.dat QfA, .dat QfA, .dat Qfz, .dat Qfz, .dat QfA]⟩
def Q05.l0.os : List Out := [⟨(.exit 0), [.mask [2, 4, 7], .auto 0], ⟨us 2 ++ .ptr 0 [] :: us 1 ++ .ptr 1 [] :: us 2 ++ .ptr 2 [] :: us 112, [.dat QfA, .dat QfA, .dat QfA]⟩⟩]
abbrev Q05.l1.σ : Type := Int × (List Int) × (List Int) × (List Int) × Unit
abbrev Q05.l1.τ : Type := Qfx 
def Q05.l1.r (k : Nat) {ρ : Type} (x : Q05.l1.σ) (kn : Q05.l1.σ → Option ρ) (ke : Q05.l1.τ → Option ρ) : Option ρ :=
 bif (decide (x.1 < (8 : Int))) then (bif (decide (((0 : Int) ≤ x.1) ∧ (x.1 < ((8 : Nat) : Int)))) then (let v43 : Int := (List.getD x.2.2.2.1 (Int.toNat x.1) (0 : Int))
 bif (decide (((0 : Int) ≤ x.1) ∧ (x.1 < ((8 : Nat) : Int)))) then (let v44 : Int := (List.getD x.2.1 (Int.toNat x.1) (0 : Int))
 let v45 : Int := (IntKind.wrap IntKind.u32 (v43 + v44))
 bif (decide (((0 : Int) ≤ x.1) ∧ (x.1 < ((8 : Nat) : Int)))) then (let v46 : Int := (IntKind.wrap IntKind.i64 (x.1 + (1 : Int)))
 kn (v46, (x.2.1, (x.2.2.1, ((List.set x.2.2.2.1 (Int.toNat x.1) v45), ()))))) else (none)) else (none)) else (none)) else (ke (x.2.2.1, (x.2.2.2.1, ())))
def Q05.l1 (k : Nat) : Nat → Q05.l1.σ → Option Q05.l1.τ := Q14 (Q05.l1.r k)
def Q05.l1.T : StT := ⟨us 2 ++ .ptr 0 [] :: us 1 ++ .ptr 1 [] :: us 2 ++ .ptr 2 [] :: us 99 ++ .dat (.int .i64) :: us 12, [.dat QfA, .dat QfA, .dat QfA]⟩
def Q05.l1.os : List Out := [⟨(.exit 2), [.mask [4, 7], .auto 0], ⟨us 4 ++ .ptr 0 [] :: us 2 ++ .ptr 1 [] :: us 112, [.dat QfA, .dat QfA]⟩⟩]
def Q05.c (k : Nat) {ρ : Type} (x_0 : (List Int)) (block : (List Int)) (K : (List Int) × Unit → Option ρ) : Option ρ :=
 (Qx k block).bind fun t0 => (Q0T k ).bind fun t1 => (Q05.l0 k k ((0 : Int), (x_0, ((List.replicate 8 (0 : Int)), (t0.1, (t1.1, (x_0, ()))))))).bind fun t42 => (Q05.l1 k k ((0 : Int), (t42.1, (t42.2.1, (t42.2.2.1, ()))))).bind fun t47 => let v48 : (List Int) := t47.2.1
 K (v48, ())
def Q05 (k : Nat) (x_0 : (List Int)) (block : (List Int)) : Option QfD := Q05.c k x_0 block some
def Q05.tin : List Ty := [QfA, QfB]
def Q05.tout : List Ty := [QfA]
def Q05.sem (k : Nat) : QP := QW Q05.tin Q05.tout fun x => Q05 k x.1 x.2.1
noncomputable def Q05.ctx (k : Nat) : Ctx := ⟨Tryz.prog, gam [(123, (Qx.sem k)), (124, (Q0T.sem k)), (125, (Q0Z.sem k))]⟩
theorem Q05.gok (k : Nat) : ∀ f, QF Tryz.prog f ((Q05.ctx k).Γ f) := (Qk (Qx.sem_ok k) (Qk (Q0T.sem_ok k) (Qk (Q0Z.sem_ok k) QX)))
theorem Q05.l0.round (k : Nat) : Q10 (Q05.ctx k) (QM (Func.code Tryz.f112) [1, 1, 1, 0, 1, 0, 0]) (.nil) Q05.l0.T [.mask [2, 4, 5, 6, 7, 20], .auto 0] Q05.l0.os (Q05.l0.r k) := by
 intro ρ x kn ke; kernel_rfl
theorem Q05.l0.ok (k : Nat) : StOK 0 Tryz.prog (.loop (QM (Func.code Tryz.f112) [1, 1, 1, 0, 1, 0, 0])) (Qn Q05.l0.T Q05.l0.os (Q05.l0 k k)) :=
 Q11 (C := Q05.ctx k) (Q05.gok k) Tryz.mix Q1.nil (by kernel_rfl) (by kernel_rfl) (by kernel_rfl) (Q05.l0.round k) k
theorem Q05.l1.round (k : Nat) : Q10 (Q05.ctx k) (QM (Func.code Tryz.f112) [1, 1, 1, 1, 0, 1, 0, 0]) (.nil) Q05.l1.T [.mask [2, 4, 7, 107], .auto 0] Q05.l1.os (Q05.l1.r k) := by
 intro ρ x kn ke; kernel_rfl
theorem Q05.l1.ok (k : Nat) : StOK 0 Tryz.prog (.loop (QM (Func.code Tryz.f112) [1, 1, 1, 1, 0, 1, 0, 0])) (Qn Q05.l1.T Q05.l1.os (Q05.l1 k k)) :=
 Q11 (C := Q05.ctx k) (Q05.gok k) Tryz.mix Q1.nil (by kernel_rfl) (by kernel_rfl) (by kernel_rfl) (Q05.l1.round k) k
def Q05.ann (k : Nat) : Ann := .node [] none (.nil) (.node [] none (.nil) (.node [] none (.nil) (.node [] none (.node [] none (.nil) (.node [] none (.node [.mask [2, 4, 5, 6, 7, 20], .auto 0] (some (Qn Q05.l0.T Q05.l0.os (Q05.l0 k k))) .nil .nil) (.nil))) (.node [] none (.node [] none (.nil) (.node [] none (.node [.mask [2, 4, 7, 107], .auto 0] (some (Qn Q05.l1.T Q05.l1.os (Q05.l1 k k))) .nil .nil) (.nil))) (.nil)))))
theorem Q05.body (k : Nat) : Q0R (Q05.ctx k) Tryz.f112 (Func.code Tryz.f112) (Q05.ann k) Q05.tin Q05.tout (fun x K => Q05.c k x.1 x.2.1 K) := by
 intro ρ x K; kernel_rfl
theorem Q05.sem_ok (k : Nat) : QF Tryz.prog 112 (Q05.sem k) :=
 QD (C := Q05.ctx k) (Q05.gok k) Tryz.mix (c := Func.code Tryz.f112) (ann := Q05.ann k) (tin := Q05.tin) (tout := Q05.tout) (fun x K => Q05.c k x.1 x.2.1 K) Tryz.func112 (by kernel_rfl) (by kernel_rfl) (Q1.seq Q1.nil (Q1.seq Q1.nil (Q1.seq Q1.nil (Q1.seq (Q1.seq Q1.nil (Q1.block (Q1.loop (by kernel_rfl) (Q05.l0.ok k)))) (Q1.seq (Q1.seq Q1.nil (Q1.block (Q1.loop (by kernel_rfl) (Q05.l1.ok k)))) Q1.nil))))) (Q05.body k)
abbrev Qw.l0.σ : Type := Qfw × (List Int) × Unit
abbrev Qw.l0.τ : Type := Qfu 
def Qw.l0.r (k : Nat) {ρ : Type} (x : Qw.l0.σ) (kn : Qw.l0.σ → Option ρ) (ke : Qw.l0.τ → Option ρ) : Option ρ :=
 let v2 : Int := (((List.length x.2.1) : Nat) : Int)
 bif (decide (v2 ≥ (64 : Int))) then (let v3 : (List Int) := x.1.1
 bif (decide (64 ≤ (List.length x.2.1))) then (let v4 : (List Int) := (List.take 64 (List.drop 0 x.2.1))
 (Q05 k v3 v4).bind fun t5 => bif (decide (((0 : Int) ≤ (64 : Int)) ∧ (((64 : Int) ≤ (((List.length x.2.1) : Nat) : Int)) ∧ ((((List.length x.2.1) : Nat) : Int) ≤ (((List.length x.2.1) : Nat) : Int))))) then (kn ((t5.1, ((), (x.1.2.2.1, ()))), ((List.take (Int.toNat ((((List.length x.2.1) : Nat) : Int) - (64 : Int))) (List.drop 64 x.2.1)), ()))) else (none)) else (none)) else (ke ((x.1.1, ((), (x.1.2.2.1, ()))), (x.2.1, ())))
def Qw.l0 (k : Nat) : Nat → Qw.l0.σ → Option Qw.l0.τ := Q14 (Qw.l0.r k)
def Qw.l0.T : StT := ⟨.ptr 0 [] :: us 52, [.pair (.dat QfA) (.pair (.vsl 1) (.dat Qfy)), .vec (.int .u8)]⟩
def Qw.l0.os : List Out := [⟨(.exit 0), [.mask [], .auto 1], ⟨us 53, [.pair (.dat QfA) (.pair (.vsl 1) (.dat Qfy)), .vec (.int .u8)]⟩⟩]
abbrev Qw.τ : Type := Qfu 
def Qw.c (k : Nat) {ρ : Type} (s : ByteArray) (b0 : Qfw) (K : Qw.τ → Option ρ) : Option ρ :=
 let v0 : Int := b0.2.2.1
 let v1 : Int := (IntKind.wrap IntKind.u64 (v0 + (IntKind.wrap IntKind.u64 (((ByteArray.size s) : Nat) : Int))))
 bif (Nat.ble ((List.length (QQ s)) * 1) 140737488355328) then ((Qw.l0 k k ((b0.1, ((), (v1, ()))), ((QQ s), ()))).bind fun t6 => K ((t6.1.1, ((), (t6.1.2.2.1, ()))), (t6.2.1, ()))) else (none)
def Qw (k : Nat) (s : ByteArray) (b0 : Qfw) : Option Qw.τ := Qw.c k s b0 some
def Qw.T : Q1T := ⟨[.ptr 0 [], .dat .str], [.pair (.dat QfA) (.pair (.nils) (.dat Qfy))], 1⟩
def Qw.os : List Out := [⟨.ret, [.auto 1], ⟨[], [.pair (.dat QfA) (.pair (.vsl 1) (.dat Qfy)), .vec (.int .u8)]⟩⟩]
def Qw.sem (k : Nat) : QP := Q24 Qw.T Qw.os fun x => Qw k x.1 x.2.1
noncomputable def Qw.ctx (k : Nat) : Ctx := ⟨Tryz.prog, gam [(112, (Q05.sem k))]⟩
theorem Qw.gok (k : Nat) : ∀ f, QF Tryz.prog f ((Qw.ctx k).Γ f) := (Qk (Q05.sem_ok k) QX)
theorem Qw.l0.round (k : Nat) : Q10 (Qw.ctx k) (QM (Func.code Tryz.f92) [1, 1, 1, 0, 0]) (.nil) Qw.l0.T [.mask [0], .auto 1] Qw.l0.os (Qw.l0.r k) := by
 intro ρ x kn ke; kernel_rfl
theorem Qw.l0.ok (k : Nat) : StOK 1 Tryz.prog (.loop (QM (Func.code Tryz.f92) [1, 1, 1, 0, 0])) (Qn Qw.l0.T Qw.l0.os (Qw.l0 k k)) :=
 Q11 (C := Qw.ctx k) (Qw.gok k) Tryz.mix Q1.nil (by kernel_rfl) (by kernel_rfl) (by kernel_rfl) (Qw.l0.round k) k
def Qw.ann (k : Nat) : Ann := .node [] none (.nil) (.node [] none (.nil) (.node [] none (.nil) (.node [] none (.node [.mask [0], .auto 1] (some (Qn Qw.l0.T Qw.l0.os (Qw.l0 k k))) .nil .nil) (.nil))))
theorem Qw.body (k : Nat) : Q23 (Qw.ctx k) Tryz.f92 (Func.code Tryz.f92) (Qw.ann k) Qw.T Qw.os (fun x K => Qw.c k x.1 x.2.1 K) := by
 intro ρ x K; kernel_rfl
theorem Qw.sem_ok (k : Nat) : QF Tryz.prog 92 (Qw.sem k) :=
 Q1x (C := Qw.ctx k) (Qw.gok k) Tryz.mix (c := Func.code Tryz.f92) (ann := Qw.ann k) (T := Qw.T) (os := Qw.os) (fun x K => Qw.c k x.1 x.2.1 K) Tryz.func92 (by kernel_rfl) (by kernel_rfl) (Q1.seq Q1.nil (Q1.seq Q1.nil (Q1.seq Q1.nil (Q1.block (Q1.loop (by kernel_rfl) (Qw.l0.ok k)))))) (Qw.body k) (by kernel_rfl) (by kernel_rfl) (by kernel_rfl)
abbrev Q0r.τ : Type := (Qfw × (List Int) × Qfw × (List Int) × Unit)
def Q0r.c (k : Nat) {ρ : Type} (b0 : Qfw) (b1 : (List Int)) (K : Q0r.τ → Option ρ) : Option ρ :=
 let v0 : (List Int) := b0.1
 bif (Nat.ble ((List.length b1) * 1) 140737488355328) then (let v1 : Int := b0.2.2.1
 K ((b0.1, ((), (b0.2.2.1, ()))), (b1, ((v0, ((), (v1, ()))), (b1, ()))))) else (none)
def Q0r (k : Nat) (b0 : Qfw) (b1 : (List Int)) : Option Q0r.τ := Q0r.c k b0 b1 some
def Q0r.T : Q1T := ⟨[.ptr 0 []], [.pair (.dat QfA) (.pair (.vsl 1) (.dat Qfy)), .vec (.int .u8)], 1⟩
def Q0r.os : List Out := [⟨.ret, [.auto 1], ⟨[.ptr 2 []], [.pair (.dat QfA) (.pair (.vsl 1) (.dat Qfy)), .vec (.int .u8), .pair (.dat QfA) (.pair (.vsl 3) (.dat Qfy)), .vec (.int .u8)]⟩⟩]
def Q0r.sem (k : Nat) : QP := Q24 Q0r.T Q0r.os fun x => Q0r k x.1 x.2.1
noncomputable def Q0r.ctx (k : Nat) : Ctx := ⟨Tryz.prog, gam []⟩
theorem Q0r.gok (k : Nat) : ∀ f, QF Tryz.prog f ((Q0r.ctx k).Γ f) := QX
def Q0r.ann (k : Nat) : Ann := .nil
theorem Q0r.body (k : Nat) : Q23 (Q0r.ctx k) Tryz.f113 (Func.code Tryz.f113) (Q0r.ann k) Q0r.T Q0r.os (fun x K => Q0r.c k x.1 x.2.1 K) := by
 intro ρ x K; kernel_rfl
theorem Q0r.sem_ok (k : Nat) : QF Tryz.prog 113 (Q0r.sem k) :=
 Q1x (C := Q0r.ctx k) (Q0r.gok k) Tryz.mix (c := Func.code Tryz.f113) (ann := Q0r.ann k) (T := Q0r.T) (os := Q0r.os) (fun x K => Q0r.c k x.1 x.2.1 K) Tryz.func113 (by kernel_rfl) (by kernel_rfl) Q1.nil (Q0r.body k) (by kernel_rfl) (by kernel_rfl) (by kernel_rfl)
abbrev Q13.l0.σ : Type := Int × Int × (List Int) × Unit
abbrev Q13.l0.τ : Type := QfD 
def Q13.l0.r (k : Nat) {ρ : Type} (x : Q13.l0.σ) (kn : Q13.l0.σ → Option ρ) (ke : Q13.l0.τ → Option ρ) : Option ρ :=
 bif (decide (x.2.1 < (8 : Int))) then (let v5 : Int := (Q1W IntKind.u64 x.1 (3 : Int))
 let v6 : Int := (IntKind.wrap IntKind.i64 ((7 : Int) - x.2.1))
 let v7 : Int := (IntKind.wrap IntKind.i64 ((8 : Int) * v6))
 bif (decide ((0 : Int) ≤ v7)) then (bif (Nat.ble (((List.length x.2.2.1) + (List.length (List.set (List.replicate 1 (0 : Int)) 0 (IntKind.wrap IntKind.u8 (Q1H IntKind.u64 v5 v7))))) * 1) 140737488355328) then (let v8 : Int := (IntKind.wrap IntKind.i64 (x.2.1 + (1 : Int)))
 kn (x.1, (v8, ((x.2.2.1 ++ (List.set (List.replicate 1 (0 : Int)) 0 (IntKind.wrap IntKind.u8 (Q1H IntKind.u64 v5 v7)))), ())))) else (none)) else (none)) else (ke (x.2.2.1, ()))
def Q13.l0 (k : Nat) : Nat → Q13.l0.σ → Option Q13.l0.τ := Q14 (Q13.l0.r k)
def Q13.l0.T : StT := ⟨.dat (.int .u64) :: us 3 ++ .vsl 0 :: us 14 ++ .dat (.int .i64) :: us 15, [.vec (.int .u8)]⟩
def Q13.l0.os : List Out := [⟨(.exit 0), [.mask [4], .auto 0], ⟨us 4 ++ .vsl 0 :: us 30, [.vec (.int .u8)]⟩⟩]
def Q13.c (k : Nat) {ρ : Type} (n : Int) (K : ByteArray × Unit → Option ρ) : Option ρ :=
 let v0 : Int := (IntKind.wrap IntKind.i64 (Int.tmod n (64 : Int)))
 let v1 : Int := (IntKind.wrap IntKind.i64 ((119 : Int) - v0))
 let v2 : Int := (IntKind.wrap IntKind.i64 ((1 : Int) + (Int.tmod v1 (64 : Int))))
 let v3 : Int := (IntKind.wrap IntKind.i64 ((1 : Int) + (Int.tmod v1 (64 : Int))))
 let v4 : Int := (IntKind.wrap IntKind.i64 (v3 + (8 : Int)))
 bif ((decide (((0 : Int) ≤ v2) ∧ (v2 ≤ v4))) && (Nat.ble ((Int.toNat v4) * 1) 140737488355328)) then (bif (decide (((0 : Int) ≤ (0 : Int)) ∧ ((0 : Int) < (((List.length (List.replicate (Int.toNat v2) (0 : Int))) : Nat) : Int)))) then ((Q13.l0 k k (n, ((0 : Int), ((List.set (List.replicate (Int.toNat v2) (0 : Int)) 0 (128 : Int)), ())))).bind fun t9 => K ((bytesOf t9.1), ())) else (none)) else (none)
def Q13 (k : Nat) (n : Int) : Option (ByteArray × Unit) := Q13.c k n some
def Q13.tin : List Ty := [(.int .u64)]
def Q13.tout : List Ty := [.str]
def Q13.sem (k : Nat) : QP := QW Q13.tin Q13.tout fun x => Q13 k x.1
noncomputable def Q13.ctx (k : Nat) : Ctx := ⟨Tryz.prog, gam []⟩
theorem Q13.gok (k : Nat) : ∀ f, QF Tryz.prog f ((Q13.ctx k).Γ f) := QX
theorem Q13.l0.round (k : Nat) : Q10 (Q13.ctx k) (QM (Func.code Tryz.f114) [1, 1, 1, 1, 0, 1, 0, 0]) (.nil) Q13.l0.T [.mask [0, 4, 19], .auto 0] Q13.l0.os (Q13.l0.r k) := by
 intro ρ x kn ke; kernel_rfl
theorem Q13.l0.ok (k : Nat) : StOK 0 Tryz.prog (.loop (QM (Func.code Tryz.f114) [1, 1, 1, 1, 0, 1, 0, 0])) (Qn Q13.l0.T Q13.l0.os (Q13.l0 k k)) :=
 Q11 (C := Q13.ctx k) (Q13.gok k) Tryz.mix Q1.nil (by kernel_rfl) (by kernel_rfl) (by kernel_rfl) (Q13.l0.round k) k
def Q13.ann (k : Nat) : Ann := .node [] none (.nil) (.node [] none (.nil) (.node [] none (.nil) (.node [] none (.nil) (.node [] none (.node [] none (.nil) (.node [] none (.node [.mask [0, 4, 19], .auto 0] (some (Qn Q13.l0.T Q13.l0.os (Q13.l0 k k))) .nil .nil) (.nil))) (.nil)))))
theorem Q13.body (k : Nat) : Q0R (Q13.ctx k) Tryz.f114 (Func.code Tryz.f114) (Q13.ann k) Q13.tin Q13.tout (fun x K => Q13.c k x.1 K) := by
 intro ρ x K; kernel_rfl
theorem Q13.sem_ok (k : Nat) : QF Tryz.prog 114 (Q13.sem k) :=
 QD (C := Q13.ctx k) (Q13.gok k) Tryz.mix (c := Func.code Tryz.f114) (ann := Q13.ann k) (tin := Q13.tin) (tout := Q13.tout) (fun x K => Q13.c k x.1 K) Tryz.func114 (by kernel_rfl) (by kernel_rfl) (Q1.seq Q1.nil (Q1.seq Q1.nil (Q1.seq Q1.nil (Q1.seq Q1.nil (Q1.seq (Q1.seq Q1.nil (Q1.block (Q1.loop (by kernel_rfl) (Q13.l0.ok k)))) Q1.nil))))) (Q13.body k)
abbrev Qq.l0.σ : Type := Qfw × (List Int) × Unit
abbrev Qq.l0.τ : Type := Qfu 
def Qq.l0.r (k : Nat) {ρ : Type} (x : Qq.l0.σ) (kn : Qq.l0.σ → Option ρ) (ke : Qq.l0.τ → Option ρ) : Option ρ :=
 let v2 : Int := (((List.length x.2.1) : Nat) : Int)
 bif (decide (v2 ≥ (64 : Int))) then (let v3 : (List Int) := x.1.1
 bif (decide (64 ≤ (List.length x.2.1))) then (let v4 : (List Int) := (List.take 64 (List.drop 0 x.2.1))
 (Q05 k v3 v4).bind fun t5 => bif (decide (((0 : Int) ≤ (64 : Int)) ∧ (((64 : Int) ≤ (((List.length x.2.1) : Nat) : Int)) ∧ ((((List.length x.2.1) : Nat) : Int) ≤ (((List.length x.2.1) : Nat) : Int))))) then (kn ((t5.1, ((), (x.1.2.2.1, ()))), ((List.take (Int.toNat ((((List.length x.2.1) : Nat) : Int) - (64 : Int))) (List.drop 64 x.2.1)), ()))) else (none)) else (none)) else (ke ((x.1.1, ((), (x.1.2.2.1, ()))), (x.2.1, ())))
def Qq.l0 (k : Nat) : Nat → Qq.l0.σ → Option Qq.l0.τ := Q14 (Qq.l0.r k)
def Qq.l0.T : StT := ⟨.ptr 0 [] :: us 52, [.pair (.dat QfA) (.pair (.vsl 1) (.dat Qfy)), .vec (.int .u8)]⟩
def Qq.l0.os : List Out := [⟨(.exit 0), [.mask [], .auto 1], ⟨us 53, [.pair (.dat QfA) (.pair (.vsl 1) (.dat Qfy)), .vec (.int .u8)]⟩⟩]
abbrev Qq.τ : Type := Qfu 
def Qq.c (k : Nat) {ρ : Type} (s : ByteArray) (b0 : Qfw) (b1 : (List Int)) (K : Qq.τ → Option ρ) : Option ρ :=
 let v0 : Int := b0.2.2.1
 let v1 : Int := (IntKind.wrap IntKind.u64 (v0 + (IntKind.wrap IntKind.u64 (((ByteArray.size s) : Nat) : Int))))
 bif (Nat.ble (((List.length b1) + (List.length (QQ s))) * 1) 140737488355328) then ((Qq.l0 k k ((b0.1, ((), (v1, ()))), ((b1 ++ (QQ s)), ()))).bind fun t6 => K ((t6.1.1, ((), (t6.1.2.2.1, ()))), (t6.2.1, ()))) else (none)
def Qq (k : Nat) (s : ByteArray) (b0 : Qfw) (b1 : (List Int)) : Option Qq.τ := Qq.c k s b0 b1 some
def Qq.T : Q1T := ⟨[.ptr 0 [], .dat .str], [.pair (.dat QfA) (.pair (.vsl 1) (.dat Qfy)), .vec (.int .u8)], 1⟩
def Qq.os : List Out := [⟨.ret, [.auto 1], ⟨[], [.pair (.dat QfA) (.pair (.vsl 1) (.dat Qfy)), .vec (.int .u8)]⟩⟩]
def Qq.sem (k : Nat) : QP := Q24 Qq.T Qq.os fun x => Qq k x.1 x.2.1 x.2.2.1
noncomputable def Qq.ctx (k : Nat) : Ctx := ⟨Tryz.prog, gam [(112, (Q05.sem k))]⟩
theorem Qq.gok (k : Nat) : ∀ f, QF Tryz.prog f ((Qq.ctx k).Γ f) := (Qk (Q05.sem_ok k) QX)
theorem Qq.l0.round (k : Nat) : Q10 (Qq.ctx k) (QM (Func.code Tryz.f92) [1, 1, 1, 0, 0]) (.nil) Qq.l0.T [.mask [0], .auto 1] Qq.l0.os (Qq.l0.r k) := by
 intro ρ x kn ke; kernel_rfl
theorem Qq.l0.ok (k : Nat) : StOK 1 Tryz.prog (.loop (QM (Func.code Tryz.f92) [1, 1, 1, 0, 0])) (Qn Qq.l0.T Qq.l0.os (Qq.l0 k k)) :=
 Q11 (C := Qq.ctx k) (Qq.gok k) Tryz.mix Q1.nil (by kernel_rfl) (by kernel_rfl) (by kernel_rfl) (Qq.l0.round k) k
def Qq.ann (k : Nat) : Ann := .node [] none (.nil) (.node [] none (.nil) (.node [] none (.nil) (.node [] none (.node [.mask [0], .auto 1] (some (Qn Qq.l0.T Qq.l0.os (Qq.l0 k k))) .nil .nil) (.nil))))
theorem Qq.body (k : Nat) : Q23 (Qq.ctx k) Tryz.f92 (Func.code Tryz.f92) (Qq.ann k) Qq.T Qq.os (fun x K => Qq.c k x.1 x.2.1 x.2.2.1 K) := by
 intro ρ x K; kernel_rfl
theorem Qq.sem_ok (k : Nat) : QF Tryz.prog 92 (Qq.sem k) :=
 Q1x (C := Qq.ctx k) (Qq.gok k) Tryz.mix (c := Func.code Tryz.f92) (ann := Qq.ann k) (T := Qq.T) (os := Qq.os) (fun x K => Qq.c k x.1 x.2.1 x.2.2.1 K) Tryz.func92 (by kernel_rfl) (by kernel_rfl) (Q1.seq Q1.nil (Q1.seq Q1.nil (Q1.seq Q1.nil (Q1.block (Q1.loop (by kernel_rfl) (Qq.l0.ok k)))))) (Qq.body k) (by kernel_rfl) (by kernel_rfl) (by kernel_rfl)
abbrev Qi.l1.σ : Type := Int × Int × (List Int) × Int × Int × Qfw × (List Int) × (List Int) × (List Int) × Unit
abbrev Qi.l1.τ : Type := ((List Int) × Int × Qfw × (List Int) × (List Int) × (List Int) × Unit)
def Qi.l1.r (k : Nat) {ρ : Type} (x : Qi.l1.σ) (kn : Qi.l1.σ → Option ρ) (ke : Qi.l1.τ → Option ρ) : Option ρ :=
 bif (decide (x.2.2.2.2.1 < (4 : Int))) then (let v6 : Int := (IntKind.wrap IntKind.i64 ((4 : Int) * x.1))
 let v7 : Int := (IntKind.wrap IntKind.i64 (v6 + x.2.2.2.2.1))
 let v8 : Int := (IntKind.wrap IntKind.i64 ((3 : Int) - x.2.2.2.2.1))
 let v9 : Int := (IntKind.wrap IntKind.i64 ((8 : Int) * v8))
 bif (decide ((0 : Int) ≤ v9)) then (let v10 : Int := (Q1H IntKind.u32 x.2.1 v9)
 bif (decide (((0 : Int) ≤ v7) ∧ (v7 < ((32 : Nat) : Int)))) then (let v11 : Int := (IntKind.wrap IntKind.i64 (x.2.2.2.2.1 + (1 : Int)))
 kn (x.1, (x.2.1, (x.2.2.1, (x.2.2.2.1, (v11, ((x.2.2.2.2.2.1.1, ((), (x.2.2.2.2.2.1.2.2.1, ()))), (x.2.2.2.2.2.2.1, (x.2.2.2.2.2.2.2.1, ((List.set x.2.2.2.2.2.2.2.2.1 (Int.toNat v7) (IntKind.wrap IntKind.u8 v10)), ())))))))))) else (none)) else (none)) else (ke (x.2.2.1, (x.2.2.2.1, ((x.2.2.2.2.2.1.1, ((), (x.2.2.2.2.2.1.2.2.1, ()))), (x.2.2.2.2.2.2.1, (x.2.2.2.2.2.2.2.1, (x.2.2.2.2.2.2.2.2.1, ())))))))
def Qi.l1 (k : Nat) : Nat → Qi.l1.σ → Option Qi.l1.τ := Q14 (Qi.l1.r k)
def Qi.l1.T : StT := ⟨us 2 ++ .ptr 2 [] :: us 1 ++ .ptr 3 [] :: .dat (.int .i64) :: .dat (.int .u32) :: us 17 ++ .dat QfA :: .dat (.int .i64) :: us 3 ++ .dat (.int .i64) :: us 16, [.pair (.dat QfA) (.pair (.vsl 1) (.dat Qfy)), .vec (.int .u8), .dat QfC, .dat QfC]⟩
def Qi.l1.os : List Out := [⟨(.exit 2), [.mask [2, 4, 24, 25], .auto 1], ⟨us 2 ++ .ptr 2 [] :: us 1 ++ .ptr 3 [] :: us 19 ++ .dat QfA :: .dat (.int .i64) :: us 20, [.pair (.dat QfA) (.pair (.vsl 1) (.dat Qfy)), .vec (.int .u8), .dat QfC, .dat QfC]⟩⟩]
abbrev Qi.l0.σ : Type := (List Int) × Int × Qfw × (List Int) × (List Int) × (List Int) × Unit
abbrev Qi.l0.τ : Type := (Qfw × (List Int) × (List Int) × (List Int) × Unit)
def Qi.l0.r (k : Nat) {ρ : Type} (x : Qi.l0.σ) (kn : Qi.l0.σ → Option ρ) (ke : Qi.l0.τ → Option ρ) : Option ρ :=
 bif (decide (x.2.1 < (8 : Int))) then (bif (decide (((0 : Int) ≤ x.2.1) ∧ (x.2.1 < ((8 : Nat) : Int)))) then (let v5 : Int := (List.getD x.1 (Int.toNat x.2.1) (0 : Int))
 (Qi.l1 k k (x.2.1, (v5, (x.1, (x.2.1, ((0 : Int), ((x.2.2.1.1, ((), (x.2.2.1.2.2.1, ()))), (x.2.2.2.1, (x.2.2.2.2.1, (x.2.2.2.2.2.1, ())))))))))).bind fun t12 => let v13 : Int := (IntKind.wrap IntKind.i64 (t12.2.1 + (1 : Int)))
 kn (t12.1, (v13, ((t12.2.2.1.1, ((), (t12.2.2.1.2.2.1, ()))), (t12.2.2.2.1, (t12.2.2.2.2.1, (t12.2.2.2.2.2.1, ()))))))) else (none)) else (ke ((x.2.2.1.1, ((), (x.2.2.1.2.2.1, ()))), (x.2.2.2.1, (x.2.2.2.2.1, (x.2.2.2.2.2.1, ())))))
def Qi.l0 (k : Nat) : Nat → Qi.l0.σ → Option Qi.l0.τ := Q14 (Qi.l0.r k)
def Qi.l0.T : StT := ⟨us 2 ++ .ptr 2 [] :: us 1 ++ .ptr 3 [] :: us 19 ++ .dat QfA :: .dat (.int .i64) :: us 20, [.pair (.dat QfA) (.pair (.vsl 1) (.dat Qfy)), .vec (.int .u8), .dat QfC, .dat QfC]⟩
def Qi.l0.os : List Out := [⟨(.exit 0), [.mask [2, 4], .auto 1], ⟨us 2 ++ .ptr 2 [] :: us 1 ++ .ptr 3 [] :: us 41, [.pair (.dat QfA) (.pair (.vsl 1) (.dat Qfy)), .vec (.int .u8), .dat QfC, .dat QfC]⟩⟩]
abbrev Qi.τ : Type := ((List Int) × Qfw × (List Int) × Unit)
def Qi.c (k : Nat) {ρ : Type} (b0 : Qfw) (b1 : (List Int)) (K : Qi.τ → Option ρ) : Option ρ :=
 (Q0r k (b0.1, ((), (b0.2.2.1, ()))) b1).bind fun t0 => let v1 : Int := t0.1.2.2.1
 (Q13 k v1).bind fun t2 => (Qq k t2.1 (t0.2.2.1.1, ((), (t0.2.2.1.2.2.1, ()))) t0.2.2.2.1).bind fun t3 => let v4 : (List Int) := t3.1.1
 (Qi.l0 k k (v4, ((0 : Int), ((t0.1.1, ((), (t0.1.2.2.1, ()))), (t0.2.1, ((List.replicate 32 (0 : Int)), ((List.replicate 32 (0 : Int)), ()))))))).bind fun t14 => let v15 : (List Int) := t14.2.2.2.1
 K (v15, ((t14.1.1, ((), (t14.1.2.2.1, ()))), (t14.2.1, ())))
def Qi (k : Nat) (b0 : Qfw) (b1 : (List Int)) : Option Qi.τ := Qi.c k b0 b1 some
def Qi.T : Q1T := ⟨[.ptr 0 []], [.pair (.dat QfA) (.pair (.vsl 1) (.dat Qfy)), .vec (.int .u8)], 1⟩
def Qi.os : List Out := [⟨.ret, [.freeze (.slot 0), .auto 1], ⟨[.dat QfC], [.pair (.dat QfA) (.pair (.vsl 1) (.dat Qfy)), .vec (.int .u8)]⟩⟩]
def Qi.sem (k : Nat) : QP := Q24 Qi.T Qi.os fun x => Qi k x.1 x.2.1
noncomputable def Qi.ctx (k : Nat) : Ctx := ⟨Tryz.prog, gam [(113, (Q0r.sem k)), (114, (Q13.sem k)), (92, (Qq.sem k))]⟩
theorem Qi.gok (k : Nat) : ∀ f, QF Tryz.prog f ((Qi.ctx k).Γ f) := (Qk (Q0r.sem_ok k) (Qk (Q13.sem_ok k) (Qk (Qq.sem_ok k) QX)))
theorem Qi.l1.round (k : Nat) : Q10 (Qi.ctx k) (QM (Func.code Tryz.f93) [1, 1, 1, 1, 1, 0, 1, 0, 0, 1, 1, 0, 0, 1, 1, 0, 0]) (.nil) Qi.l1.T [.mask [2, 4, 5, 6, 24, 25, 29], .auto 1] Qi.l1.os (Qi.l1.r k) := by
 intro ρ x kn ke; kernel_rfl
theorem Qi.l1.ok (k : Nat) : StOK 1 Tryz.prog (.loop (QM (Func.code Tryz.f93) [1, 1, 1, 1, 1, 0, 1, 0, 0, 1, 1, 0, 0, 1, 1, 0, 0])) (Qn Qi.l1.T Qi.l1.os (Qi.l1 k k)) :=
 Q11 (C := Qi.ctx k) (Qi.gok k) Tryz.mix Q1.nil (by kernel_rfl) (by kernel_rfl) (by kernel_rfl) (Qi.l1.round k) k
theorem Qi.l0.round (k : Nat) : Q10 (Qi.ctx k) (QM (Func.code Tryz.f93) [1, 1, 1, 1, 1, 0, 1, 0, 0]) (.node [] none (.nil) (.node [] none (.nil) (.node [] none (.node [] none (.node [] none (.nil) (.node [] none (.nil) (.node [] none (.node [.mask [2, 4, 5, 6, 24, 25, 29], .auto 1] (some (Qn Qi.l1.T Qi.l1.os (Qi.l1 k k))) .nil .nil) (.nil)))) (.nil)) (.nil)))) Qi.l0.T [.mask [2, 4, 24, 25], .auto 1] Qi.l0.os (Qi.l0.r k) := by
 intro ρ x kn ke; kernel_rfl
theorem Qi.l0.ok (k : Nat) : StOK 1 Tryz.prog (.loop (QM (Func.code Tryz.f93) [1, 1, 1, 1, 1, 0, 1, 0, 0])) (Qn Qi.l0.T Qi.l0.os (Qi.l0 k k)) :=
 Q11 (C := Qi.ctx k) (Qi.gok k) Tryz.mix (Q1.seq Q1.nil (Q1.seq Q1.nil (Q1.seq (Q1.block (Q1.seq Q1.nil (Q1.seq Q1.nil (Q1.block (Q1.loop (by kernel_rfl) (Qi.l1.ok k)))))) Q1.nil))) (by kernel_rfl) (by kernel_rfl) (by kernel_rfl) (Qi.l0.round k) k
def Qi.ann (k : Nat) : Ann := .node [] none (.nil) (.node [] none (.nil) (.node [] none (.nil) (.node [] none (.nil) (.node [] none (.nil) (.node [] none (.node [] none (.nil) (.node [] none (.node [.mask [2, 4, 24, 25], .auto 1] (some (Qn Qi.l0.T Qi.l0.os (Qi.l0 k k))) .nil .nil) (.nil))) (.nil))))))
theorem Qi.body (k : Nat) : Q23 (Qi.ctx k) Tryz.f93 (Func.code Tryz.f93) (Qi.ann k) Qi.T Qi.os (fun x K => Qi.c k x.1 x.2.1 K) := by
 intro ρ x K; kernel_rfl
theorem Qi.sem_ok (k : Nat) : QF Tryz.prog 93 (Qi.sem k) :=
 Q1x (C := Qi.ctx k) (Qi.gok k) Tryz.mix (c := Func.code Tryz.f93) (ann := Qi.ann k) (T := Qi.T) (os := Qi.os) (fun x K => Qi.c k x.1 x.2.1 K) Tryz.func93 (by kernel_rfl) (by kernel_rfl) (Q1.seq Q1.nil (Q1.seq Q1.nil (Q1.seq Q1.nil (Q1.seq Q1.nil (Q1.seq Q1.nil (Q1.seq (Q1.seq Q1.nil (Q1.block (Q1.loop (by kernel_rfl) (Qi.l0.ok k)))) Q1.nil)))))) (Qi.body k) (by kernel_rfl) (by kernel_rfl) (by kernel_rfl)
def Q1A.c (k : Nat) {ρ : Type} (s : ByteArray) (K : (List Int) × Unit → Option ρ) : Option ρ :=
 (Q1B k ).bind fun t0 => (Qw k s (t0.1.1, ((), (t0.1.2.2.1, ())))).bind fun t1 => (Qi k (t1.1.1, ((), (t1.1.2.2.1, ()))) t1.2.1).bind fun t2 => K (t2.1, ())
def Q1A (k : Nat) (s : ByteArray) : Option QfD := Q1A.c k s some
def Q1A.tin : List Ty := [.str]
def Q1A.tout : List Ty := [QfC]
def Q1A.sem (k : Nat) : QP := QW Q1A.tin Q1A.tout fun x => Q1A k x.1
noncomputable def Q1A.ctx (k : Nat) : Ctx := ⟨Tryz.prog, gam [(91, (Q1B.sem k)), (92, (Qw.sem k)), (93, (Qi.sem k))]⟩
theorem Q1A.gok (k : Nat) : ∀ f, QF Tryz.prog f ((Q1A.ctx k).Γ f) := (Qk (Q1B.sem_ok k) (Qk (Qw.sem_ok k) (Qk (Qi.sem_ok k) QX)))
def Q1A.ann (k : Nat) : Ann := .nil
theorem Q1A.body (k : Nat) : Q0R (Q1A.ctx k) Tryz.f60 (Func.code Tryz.f60) (Q1A.ann k) Q1A.tin Q1A.tout (fun x K => Q1A.c k x.1 K) := by
 intro ρ x K; kernel_rfl
theorem Q1A.sem_ok (k : Nat) : QF Tryz.prog 60 (Q1A.sem k) :=
 QD (C := Q1A.ctx k) (Q1A.gok k) Tryz.mix (c := Func.code Tryz.f60) (ann := Q1A.ann k) (tin := Q1A.tin) (tout := Q1A.tout) (fun x K => Q1A.c k x.1 K) Tryz.func60 (by kernel_rfl) (by kernel_rfl) Q1.nil (Q1A.body k)
def Q1k.c (k : Nat) {ρ : Type} (s : ByteArray) (K : (List Int) × Unit → Option ρ) : Option ρ :=
 (Q1A k s).bind fun t0 => let v1 : ByteArray := (bytesOf (List.take 32 (List.drop 0 t0.1)))
 (Q1A k v1).bind fun t2 => K (t2.1, ())
def Q1k (k : Nat) (s : ByteArray) : Option QfD := Q1k.c k s some
def Q1k.tin : List Ty := [.str]
def Q1k.tout : List Ty := [QfC]
def Q1k.sem (k : Nat) : QP := QW Q1k.tin Q1k.tout fun x => Q1k k x.1
noncomputable def Q1k.ctx (k : Nat) : Ctx := ⟨Tryz.prog, gam [(60, (Q1A.sem k))]⟩
theorem Q1k.gok (k : Nat) : ∀ f, QF Tryz.prog f ((Q1k.ctx k).Γ f) := (Qk (Q1A.sem_ok k) QX)
def Q1k.ann (k : Nat) : Ann := .nil
theorem Q1k.body (k : Nat) : Q0R (Q1k.ctx k) Tryz.f33 (Func.code Tryz.f33) (Q1k.ann k) Q1k.tin Q1k.tout (fun x K => Q1k.c k x.1 K) := by
 intro ρ x K; kernel_rfl
theorem Q1k.sem_ok (k : Nat) : QF Tryz.prog 33 (Q1k.sem k) :=
 QD (C := Q1k.ctx k) (Q1k.gok k) Tryz.mix (c := Func.code Tryz.f33) (ann := Q1k.ann k) (tin := Q1k.tin) (tout := Q1k.tout) (fun x K => Q1k.c k x.1 K) Tryz.func33 (by kernel_rfl) (by kernel_rfl) Q1.nil (Q1k.body k)
end Go.Am
namespace Go.Am
open Go Go.Proofs
set_option maxRecDepth 100000
abbrev Qf.l0.σ : Type := Int × (List Int) × Unit
abbrev Qf.l0.τ : Type := (Int × (List Int) × Unit)
def Qf.l0.r (k : Nat) {ρ : Type} (x : Qf.l0.σ) (kn : Qf.l0.σ → Option ρ) (ke : Qf.l0.τ → Option ρ) : Option ρ :=
 let v0 : Int := (((List.length x.2.1) : Nat) : Int)
 let v1 : Int := (IntKind.wrap IntKind.u64 (x.1 + (IntKind.wrap IntKind.u64 v0)))
 bif ((Int.tmod v1 (64 : Int)) != (56 : Int)) then (bif (Nat.ble (((List.length x.2.1) + 1) * 1) 140737488355328) then (kn (x.1, ((x.2.1 ++ (List.set (List.replicate 1 (0 : Int)) 0 (0 : Int))), ()))) else (none)) else (ke (x.1, (x.2.1, ())))
def Qf.l0 (k : Nat) : Nat → Qf.l0.σ → Option Qf.l0.τ := Q14 (Qf.l0.r k)
def Qf.l0.T : StT := ⟨.dat (.int .u64) :: us 2 ++ .vsl 0 :: us 29, [.vec (.int .u8)]⟩
def Qf.l0.os : List Out := [⟨(.exit 0), [.mask [0, 3], .auto 0], ⟨.dat (.int .u64) :: us 2 ++ .vsl 0 :: us 29, [.vec (.int .u8)]⟩⟩]
abbrev Qf.l1.σ : Type := Int × Int × (List Int) × Unit
abbrev Qf.l1.τ : Type := QfD 
def Qf.l1.r (k : Nat) {ρ : Type} (x : Qf.l1.σ) (kn : Qf.l1.σ → Option ρ) (ke : Qf.l1.τ → Option ρ) : Option ρ :=
 bif (decide (x.2.1 ≥ (0 : Int))) then (let v4 : Int := (IntKind.wrap IntKind.i64 ((8 : Int) * x.2.1))
 bif (decide ((0 : Int) ≤ v4)) then (let v5 : Int := (Q1H IntKind.u64 x.1 v4)
 bif (Nat.ble (((List.length x.2.2.1) + (List.length (List.set (List.replicate 1 (0 : Int)) 0 (IntKind.wrap IntKind.u8 v5)))) * 1) 140737488355328) then (let v6 : Int := (IntKind.wrap IntKind.i64 (x.2.1 - (1 : Int)))
 kn (x.1, (v6, ((x.2.2.1 ++ (List.set (List.replicate 1 (0 : Int)) 0 (IntKind.wrap IntKind.u8 v5))), ())))) else (none)) else (none)) else (ke (x.2.2.1, ()))
def Qf.l1 (k : Nat) : Nat → Qf.l1.σ → Option Qf.l1.τ := Q14 (Qf.l1.r k)
def Qf.l1.T : StT := ⟨us 3 ++ .vsl 0 :: .dat (.int .u64) :: .dat (.int .i64) :: us 27, [.vec (.int .u8)]⟩
def Qf.l1.os : List Out := [⟨(.exit 2), [.mask [3], .auto 0], ⟨us 3 ++ .vsl 0 :: us 29, [.vec (.int .u8)]⟩⟩]
def Qf.c (k : Nat) {ρ : Type} (n : Int) (K : ByteArray × Unit → Option ρ) : Option ρ :=
 (Qf.l0 k k (n, ((List.set (List.replicate 1 (0 : Int)) 0 (128 : Int)), ()))).bind fun t2 => let v3 : Int := (IntKind.wrap IntKind.u64 ((8 : Int) * t2.1))
 (Qf.l1 k k (v3, ((7 : Int), (t2.2.1, ())))).bind fun t7 => K ((bytesOf t7.1), ())
def Qf (k : Nat) (n : Int) : Option (ByteArray × Unit) := Qf.c k n some
def Qf.tin : List Ty := [(.int .u64)]
def Qf.tout : List Ty := [.str]
def Qf.sem (k : Nat) : QP := QW Qf.tin Qf.tout fun x => Qf k x.1
noncomputable def Qf.ctx (k : Nat) : Ctx := ⟨Tryz.prog, gam []⟩
theorem Qf.gok (k : Nat) : ∀ f, QF Tryz.prog f ((Qf.ctx k).Γ f) := QX
theorem Qf.l0.round (k : Nat) : Q10 (Qf.ctx k) (QM (Func.code Tryz.f98) [1, 1, 0, 0, 0]) (.nil) Qf.l0.T [.mask [0, 3], .auto 0] Qf.l0.os (Qf.l0.r k) := by
 intro ρ x kn ke; kernel_rfl
theorem Qf.l0.ok (k : Nat) : StOK 0 Tryz.prog (.loop (QM (Func.code Tryz.f98) [1, 1, 0, 0, 0])) (Qn Qf.l0.T Qf.l0.os (Qf.l0 k k)) :=
 Q11 (C := Qf.ctx k) (Qf.gok k) Tryz.mix Q1.nil (by kernel_rfl) (by kernel_rfl) (by kernel_rfl) (Qf.l0.round k) k
theorem Qf.l1.round (k : Nat) : Q10 (Qf.ctx k) (QM (Func.code Tryz.f98) [1, 1, 1, 1, 0, 1, 0, 0]) (.nil) Qf.l1.T [.mask [3, 4, 5], .auto 0] Qf.l1.os (Qf.l1.r k) := by
 intro ρ x kn ke; kernel_rfl
theorem Qf.l1.ok (k : Nat) : StOK 0 Tryz.prog (.loop (QM (Func.code Tryz.f98) [1, 1, 1, 1, 0, 1, 0, 0])) (Qn Qf.l1.T Qf.l1.os (Qf.l1 k k)) :=
 Q11 (C := Qf.ctx k) (Qf.gok k) Tryz.mix Q1.nil (by kernel_rfl) (by kernel_rfl) (by kernel_rfl) (Qf.l1.round k) k
def Qf.ann (k : Nat) : Ann := .node [] none (.nil) (.node [] none (.nil) (.node [] none (.node [] none (.node [.mask [0, 3], .auto 0] (some (Qn Qf.l0.T Qf.l0.os (Qf.l0 k k))) .nil .nil) (.nil)) (.node [] none (.nil) (.node [] none (.node [] none (.nil) (.node [] none (.node [.mask [3, 4, 5], .auto 0] (some (Qn Qf.l1.T Qf.l1.os (Qf.l1 k k))) .nil .nil) (.nil))) (.nil)))))
theorem Qf.body (k : Nat) : Q0R (Qf.ctx k) Tryz.f98 (Func.code Tryz.f98) (Qf.ann k) Qf.tin Qf.tout (fun x K => Qf.c k x.1 K) := by
 intro ρ x K; kernel_rfl
theorem Qf.sem_ok (k : Nat) : QF Tryz.prog 98 (Qf.sem k) :=
 QD (C := Qf.ctx k) (Qf.gok k) Tryz.mix (c := Func.code Tryz.f98) (ann := Qf.ann k) (tin := Qf.tin) (tout := Qf.tout) (fun x K => Qf.c k x.1 K) Tryz.func98 (by kernel_rfl) (by kernel_rfl) (Q1.seq Q1.nil (Q1.seq Q1.nil (Q1.seq (Q1.block (Q1.loop (by kernel_rfl) (Qf.l0.ok k))) (Q1.seq Q1.nil (Q1.seq (Q1.seq Q1.nil (Q1.block (Q1.loop (by kernel_rfl) (Qf.l1.ok k)))) Q1.nil))))) (Qf.body k)
def Q0x.c (k : Nat) {ρ : Type}  (K : (List Int) × Unit → Option ρ) : Option ρ :=
 let v0 : (List Int) := (List.set (List.set (List.set (List.set (List.set (List.set (List.set (List.set (List.replicate 8 (0 : Int)) 0 (1779033703 : Int)) 1 (3144134277 : Int)) 2 (1013904242 : Int)) 3 (2773480762 : Int)) 4 (1359893119 : Int)) 5 (2600822924 : Int)) 6 (528734635 : Int)) 7 (1541459225 : Int))
 K (v0, ())
def Q0x (k : Nat)  : Option QfD := Q0x.c k  some
def Q0x.tin : List Ty := []
def Q0x.tout : List Ty := [QfA]
def Q0x.sem (k : Nat) : QP := QW Q0x.tin Q0x.tout fun x => Q0x k 
noncomputable def Q0x.ctx (k : Nat) : Ctx := ⟨Tryz.prog, gam []⟩
theorem Q0x.gok (k : Nat) : ∀ f, QF Tryz.prog f ((Q0x.ctx k).Γ f) := QX
def Q0x.ann (k : Nat) : Ann := .nil
theorem Q0x.body (k : Nat) : Q0R (Q0x.ctx k) Tryz.f99 (Func.code Tryz.f99) (Q0x.ann k) Q0x.tin Q0x.tout (fun x K => Q0x.c k  K) := by
 intro ρ x K; kernel_rfl
theorem Q0x.sem_ok (k : Nat) : QF Tryz.prog 99 (Q0x.sem k) :=
 QD (C := Q0x.ctx k) (Q0x.gok k) Tryz.mix (c := Func.code Tryz.f99) (ann := Q0x.ann k) (tin := Q0x.tin) (tout := Q0x.tout) (fun x K => Q0x.c k  K) Tryz.func99 (by kernel_rfl) (by kernel_rfl) Q1.nil (Q0x.body k)
def QZ.c (k : Nat) {ρ : Type}  (K : (List Int) × Unit → Option ρ) : Option ρ :=
 let v0 : (List Int) := (List.set (List.set (List.set (List.set (List.set (List.set (List.set (List.set (List.set (List.set (List.set (List.set (List.set (List.set (List.set (List.set (List.set (List.set (List.set (List.set (List.set (List.set (List.set (List.set (List.set (List.set (List.set (List.set (List.set (List.set (List.set (List.set (List.set (List.set (List.set (List.set (List.set (List.set (List.set (List.set (List.set (List.set (List.set (List.set (List.set (List.set (List.set (List.set (List.set (List.set (List.set (List.set (List.set (List.set (List.set (List.set (List.set (List.set (List.set (List.set (List.set (List.set (List.set (List.set (List.replicate 64 (0 : Int)) 0 (1116352408 : Int)) 1 (1899447441 : Int)) 2 (3049323471 : Int)) 3 (3921009573 : Int)) 4 (961987163 : Int)) 5 (1508970993 : Int)) 6 (2453635748 : Int)) 7 (2870763221 : Int)) 8 (3624381080 : Int)) 9 (310598401 : Int)) 10 (607225278 : Int)) 11 (1426881987 : Int)) 12 (1925078388 : Int)) 13 (2162078206 : Int)) 14 (2614888103 : Int)) 15 (3248222580 : Int)) 16 (3835390401 : Int)) 17 (4022224774 : Int)) 18 (264347078 : Int)) 19 (604807628 : Int)) 20 (770255983 : Int)) 21 (1249150122 : Int)) 22 (1555081692 : Int)) 23 (1996064986 : Int)) 24 (2554220882 : Int)) 25 (2821834349 : Int)) 26 (2952996808 : Int)) 27 (3210313671 : Int)) 28 (3336571891 : Int)) 29 (3584528711 : Int)) 30 (113926993 : Int)) 31 (338241895 : Int)) 32 (666307205 : Int)) 33 (773529912 : Int)) 34 (1294757372 : Int)) 35 (1396182291 : Int)) 36 (1695183700 : Int)) 37 (1986661051 : Int)) 38 (2177026350 : Int)) 39 (2456956037 : Int)) 40 (2730485921 : Int)) 41 (2820302411 : Int)) 42 (3259730800 : Int)) 43 (3345764771 : Int)) 44 (3516065817 : Int)) 45 (3600352804 : Int)) 46 (4094571909 : Int)) 47 (275423344 : Int)) 48 (430227734 : Int)) 49 (506948616 : Int)) 50 (659060556 : Int)) 51 (883997877 : Int)) 52 (958139571 : Int)) 53 (1322822218 : Int)) 54 (1537002063 : Int)) 55 (1747873779 : Int)) 56 (1955562222 : Int)) 57 (2024104815 : Int)) 58 (2227730452 : Int)) 59 (2361852424 : Int)) 60 (2428436474 : Int)) 61 (2756734187 : Int)) 62 (3204031479 : Int)) 63 (3329325298 : Int))
 K (v0, ())
def QZ (k : Nat)  : Option QfD := QZ.c k  some
def QZ.tin : List Ty := []
def QZ.tout : List Ty := [Qfz]
def QZ.sem (k : Nat) : QP := QW QZ.tin QZ.tout fun x => QZ k 
noncomputable def QZ.ctx (k : Nat) : Ctx := ⟨Tryz.prog, gam []⟩
theorem QZ.gok (k : Nat) : ∀ f, QF Tryz.prog f ((QZ.ctx k).Γ f) := QX
def QZ.ann (k : Nat) : Ann := .nil
theorem QZ.body (k : Nat) : Q0R (QZ.ctx k) Tryz.f116 (Func.code Tryz.f116) (QZ.ann k) QZ.tin QZ.tout (fun x K => QZ.c k  K) := by
 intro ρ x K; kernel_rfl
theorem QZ.sem_ok (k : Nat) : QF Tryz.prog 116 (QZ.sem k) :=
 QD (C := QZ.ctx k) (QZ.gok k) Tryz.mix (c := Func.code Tryz.f116) (ann := QZ.ann k) (tin := QZ.tin) (tout := QZ.tout) (fun x K => QZ.c k  K) Tryz.func116 (by kernel_rfl) (by kernel_rfl) Q1.nil (QZ.body k)
def QY.c (k : Nat) {ρ : Type} (n : Int) (by_1 : Int) (K : Int × Unit → Option ρ) : Option ρ :=
 bif (decide ((0 : Int) ≤ by_1)) then (let v0 : Int := (IntKind.wrap IntKind.i64 ((32 : Int) - by_1))
 bif (decide ((0 : Int) ≤ v0)) then (let v1 : Int := (Q0S BinOp.or IntKind.u32 (Q1H IntKind.u32 n by_1) (Q1W IntKind.u32 n v0))
 K (v1, ())) else (none)) else (none)
def QY (k : Nat) (n : Int) (by_1 : Int) : Option (Int × Unit) := QY.c k n by_1 some
def QY.tin : List Ty := [(.int .u32), (.int .i64)]
def QY.tout : List Ty := [(.int .u32)]
def QY.sem (k : Nat) : QP := QW QY.tin QY.tout fun x => QY k x.1 x.2.1
noncomputable def QY.ctx (k : Nat) : Ctx := ⟨Tryz.prog, gam []⟩
theorem QY.gok (k : Nat) : ∀ f, QF Tryz.prog f ((QY.ctx k).Γ f) := QX
def QY.ann (k : Nat) : Ann := .nil
theorem QY.body (k : Nat) : Q0R (QY.ctx k) Tryz.f117 (Func.code Tryz.f117) (QY.ann k) QY.tin QY.tout (fun x K => QY.c k x.1 x.2.1 K) := by
 intro ρ x K; kernel_rfl
theorem QY.sem_ok (k : Nat) : QF Tryz.prog 117 (QY.sem k) :=
 QD (C := QY.ctx k) (QY.gok k) Tryz.mix (c := Func.code Tryz.f117) (ann := QY.ann k) (tin := QY.tin) (tout := QY.tout) (fun x K => QY.c k x.1 x.2.1 K) Tryz.func117 (by kernel_rfl) (by kernel_rfl) Q1.nil (QY.body k)
abbrev Q5.l0.σ : Type := Int × (List Int) × (List Int) × (List Int) × (List Int) × (List Int) × Unit
abbrev Q5.l0.τ : Type := ((List Int) × (List Int) × (List Int) × (List Int) × Unit)
def Q5.l0.r (k : Nat) {ρ : Type} (x : Q5.l0.σ) (kn : Q5.l0.σ → Option ρ) (ke : Q5.l0.τ → Option ρ) : Option ρ :=
 bif (decide (x.1 < (64 : Int))) then (bif (decide (x.1 < (16 : Int))) then (let v2 : Int := (IntKind.wrap IntKind.i64 ((4 : Int) * x.1))
 bif (decide (((0 : Int) ≤ v2) ∧ (v2 < ((64 : Nat) : Int)))) then (let v3 : Int := (List.getD x.2.2.1 (Int.toNat v2) (0 : Int))
 let v4 : Int := (Q1W IntKind.u32 (IntKind.wrap IntKind.u32 v3) (24 : Int))
 let v5 : Int := (IntKind.wrap IntKind.i64 ((4 : Int) * x.1))
 let v6 : Int := (IntKind.wrap IntKind.i64 (v5 + (1 : Int)))
 bif (decide (((0 : Int) ≤ v6) ∧ (v6 < ((64 : Nat) : Int)))) then (let v7 : Int := (List.getD x.2.2.1 (Int.toNat v6) (0 : Int))
 let v8 : Int := (Q1W IntKind.u32 (IntKind.wrap IntKind.u32 v7) (16 : Int))
 let v9 : Int := (IntKind.wrap IntKind.i64 ((4 : Int) * x.1))
 let v10 : Int := (IntKind.wrap IntKind.i64 (v9 + (2 : Int)))
 bif (decide (((0 : Int) ≤ v10) ∧ (v10 < ((64 : Nat) : Int)))) then (let v11 : Int := (List.getD x.2.2.1 (Int.toNat v10) (0 : Int))
 let v12 : Int := (Q1W IntKind.u32 (IntKind.wrap IntKind.u32 v11) (8 : Int))
 let v13 : Int := (Q0S BinOp.or IntKind.u32 (Q0S BinOp.or IntKind.u32 v4 v8) v12)
 let v14 : Int := (IntKind.wrap IntKind.i64 ((4 : Int) * x.1))
 let v15 : Int := (IntKind.wrap IntKind.i64 (v14 + (3 : Int)))
 bif (decide (((0 : Int) ≤ v15) ∧ (v15 < ((64 : Nat) : Int)))) then (let v16 : Int := (List.getD x.2.2.1 (Int.toNat v15) (0 : Int))
 bif (decide (((0 : Int) ≤ x.1) ∧ (x.1 < ((64 : Nat) : Int)))) then (let v17 : Int := (IntKind.wrap IntKind.i64 (x.1 + (1 : Int)))
 kn (v17, (x.2.1, (x.2.2.1, (x.2.2.2.1, (x.2.2.2.2.1, ((List.set x.2.2.2.2.2.1 (Int.toNat x.1) (Q0S BinOp.or IntKind.u32 v13 (IntKind.wrap IntKind.u32 v16))), ()))))))) else (none)) else (none)) else (none)) else (none)) else (none)) else (let v18 : Int := (IntKind.wrap IntKind.i64 (x.1 - (15 : Int)))
 bif (decide (((0 : Int) ≤ v18) ∧ (v18 < ((64 : Nat) : Int)))) then (let v19 : Int := (List.getD x.2.2.2.2.2.1 (Int.toNat v18) (0 : Int))
 let v20 : Int := (IntKind.wrap IntKind.i64 (x.1 - (2 : Int)))
 bif (decide (((0 : Int) ≤ v20) ∧ (v20 < ((64 : Nat) : Int)))) then (let v21 : Int := (List.getD x.2.2.2.2.2.1 (Int.toNat v20) (0 : Int))
 (QY k v21 (17 : Int)).bind fun t22 => (QY k v21 (19 : Int)).bind fun t23 => let v24 : Int := (Q0S BinOp.xor IntKind.u32 t22.1 t23.1)
 let v25 : Int := (Q1H IntKind.u32 v21 (10 : Int))
 let v26 : Int := (IntKind.wrap IntKind.i64 (x.1 - (7 : Int)))
 bif (decide (((0 : Int) ≤ v26) ∧ (v26 < ((64 : Nat) : Int)))) then (let v27 : Int := (List.getD x.2.2.2.2.2.1 (Int.toNat v26) (0 : Int))
 let v28 : Int := (IntKind.wrap IntKind.u32 ((Q0S BinOp.xor IntKind.u32 v24 v25) + v27))
 (QY k v19 (7 : Int)).bind fun t29 => (QY k v19 (18 : Int)).bind fun t30 => let v31 : Int := (Q0S BinOp.xor IntKind.u32 t29.1 t30.1)
 let v32 : Int := (Q1H IntKind.u32 v19 (3 : Int))
 let v33 : Int := (IntKind.wrap IntKind.u32 (v28 + (Q0S BinOp.xor IntKind.u32 v31 v32)))
 let v34 : Int := (IntKind.wrap IntKind.i64 (x.1 - (16 : Int)))
 bif (decide (((0 : Int) ≤ v34) ∧ (v34 < ((64 : Nat) : Int)))) then (let v35 : Int := (List.getD x.2.2.2.2.2.1 (Int.toNat v34) (0 : Int))
 let v36 : Int := (IntKind.wrap IntKind.u32 (v33 + v35))
 bif (decide (((0 : Int) ≤ x.1) ∧ (x.1 < ((64 : Nat) : Int)))) then (let v37 : Int := (IntKind.wrap IntKind.i64 (x.1 + (1 : Int)))
 kn (v37, (x.2.1, (x.2.2.1, (x.2.2.2.1, (x.2.2.2.2.1, ((List.set x.2.2.2.2.2.1 (Int.toNat x.1) v36), ()))))))) else (none)) else (none)) else (none)) else (none)) else (none))) else (ke (x.2.1, (x.2.2.2.1, (x.2.2.2.2.1, (x.2.2.2.2.2.1, ())))))
def Q5.l0 (k : Nat) : Nat → Q5.l0.σ → Option Q5.l0.τ := Q14 (Q5.l0.r k)
def Q5.l0.T : StT := ⟨us 2 ++ .ptr 0 [] :: .ptr 1 [] :: .ptr 2 [] :: .ptr 3 [] :: .ptr 4 [] :: .dat (.int .i64) :: us 181, [.dat QfA, .dat QfB, .dat QfA, .dat Qfz, .dat Qfz]⟩
def Q5.l0.os : List Out := [⟨(.exit 0), [.mask [2, 4, 5, 6], .auto 0], ⟨us 2 ++ .ptr 0 [] :: us 1 ++ .ptr 1 [] :: .ptr 2 [] :: .ptr 3 [] :: us 182, [.dat QfA, .dat QfA, .dat Qfz, .dat Qfz]⟩⟩]
abbrev Q5.l1.σ : Type := Int × (List Int) × (List Int) × (List Int) × (List Int) × (List Int) × Unit
abbrev Q5.l1.τ : Type := Qfv 
def Q5.l1.r (k : Nat) {ρ : Type} (x : Q5.l1.σ) (kn : Q5.l1.σ → Option ρ) (ke : Q5.l1.τ → Option ρ) : Option ρ :=
 bif (decide (x.1 < (64 : Int))) then (let v40 : Int := (List.getD x.2.2.2.2.2.1 4 (0 : Int))
 let v41 : Int := (List.getD x.2.2.2.2.2.1 0 (0 : Int))
 let v42 : Int := (List.getD x.2.2.2.2.2.1 7 (0 : Int))
 (QY k v40 (6 : Int)).bind fun t43 => (QY k v40 (11 : Int)).bind fun t44 => let v45 : Int := (Q0S BinOp.xor IntKind.u32 t43.1 t44.1)
 (QY k v40 (25 : Int)).bind fun t46 => let v47 : Int := (Q0S BinOp.xor IntKind.u32 v45 t46.1)
 let v48 : Int := (IntKind.wrap IntKind.u32 (v42 + v47))
 let v49 : Int := (List.getD x.2.2.2.2.2.1 5 (0 : Int))
 let v50 : Int := (IntKind.wrap IntKind.u32 ((4294967295 : Int) - v40))
 let v51 : Int := (List.getD x.2.2.2.2.2.1 6 (0 : Int))
 let v52 : Int := (Q0S BinOp.xor IntKind.u32 (Q0S BinOp.and IntKind.u32 v40 v49) (Q0S BinOp.and IntKind.u32 v50 v51))
 let v53 : Int := (IntKind.wrap IntKind.u32 (v48 + v52))
 bif (decide (((0 : Int) ≤ x.1) ∧ (x.1 < ((64 : Nat) : Int)))) then (let v54 : Int := (List.getD x.2.2.2.1 (Int.toNat x.1) (0 : Int))
 let v55 : Int := (IntKind.wrap IntKind.u32 (v53 + v54))
 bif (decide (((0 : Int) ≤ x.1) ∧ (x.1 < ((64 : Nat) : Int)))) then (let v56 : Int := (List.getD x.2.2.2.2.1 (Int.toNat x.1) (0 : Int))
 let v57 : Int := (IntKind.wrap IntKind.u32 (v55 + v56))
 (QY k v41 (2 : Int)).bind fun t58 => (QY k v41 (13 : Int)).bind fun t59 => let v60 : Int := (Q0S BinOp.xor IntKind.u32 t58.1 t59.1)
 (QY k v41 (22 : Int)).bind fun t61 => let v62 : Int := (Q0S BinOp.xor IntKind.u32 v60 t61.1)
 let v63 : Int := (List.getD x.2.2.2.2.2.1 1 (0 : Int))
 let v64 : Int := (List.getD x.2.2.2.2.2.1 2 (0 : Int))
 let v65 : Int := (Q0S BinOp.xor IntKind.u32 (Q0S BinOp.and IntKind.u32 v41 v63) (Q0S BinOp.and IntKind.u32 v41 v64))
 let v66 : Int := (List.getD x.2.2.2.2.2.1 1 (0 : Int))
 let v67 : Int := (List.getD x.2.2.2.2.2.1 2 (0 : Int))
 let v68 : Int := (Q0S BinOp.xor IntKind.u32 v65 (Q0S BinOp.and IntKind.u32 v66 v67))
 let v69 : Int := (IntKind.wrap IntKind.u32 (v62 + v68))
 let v70 : Int := (IntKind.wrap IntKind.u32 (v57 + v69))
 let v71 : Int := (List.getD x.2.2.2.2.2.1 0 (0 : Int))
 let v72 : Int := (List.getD x.2.2.2.2.2.1 1 (0 : Int))
 let v73 : Int := (List.getD x.2.2.2.2.2.1 2 (0 : Int))
 let v74 : Int := (List.getD x.2.2.2.2.2.1 3 (0 : Int))
 let v75 : Int := (IntKind.wrap IntKind.u32 (v74 + v57))
 let v76 : Int := (List.getD x.2.2.2.2.2.1 4 (0 : Int))
 let v77 : Int := (List.getD x.2.2.2.2.2.1 5 (0 : Int))
 let v78 : Int := (List.getD x.2.2.2.2.2.1 6 (0 : Int))
 let v79 : (List Int) := (List.set (List.set (List.set (List.set (List.set (List.set (List.set (List.set (List.replicate 8 (0 : Int)) 0 v70) 1 v71) 2 v72) 3 v73) 4 v75) 5 v76) 6 v77) 7 v78)
 let v80 : Int := (IntKind.wrap IntKind.i64 (x.1 + (1 : Int)))
 kn (v80, (x.2.1, (x.2.2.1, (x.2.2.2.1, (x.2.2.2.2.1, (v79, ()))))))) else (none)) else (none)) else (ke (x.2.1, (x.2.2.1, (x.2.2.2.2.2.1, ()))))
def Q5.l1 (k : Nat) : Nat → Q5.l1.σ → Option Q5.l1.τ := Q14 (Q5.l1.r k)
def Q5.l1.T : StT := ⟨us 2 ++ .ptr 0 [] :: us 1 ++ .ptr 1 [] :: .ptr 2 [] :: .ptr 3 [] :: us 3 ++ .ptr 4 [] :: .dat (.int .i64) :: us 177, [.dat QfA, .dat QfA, .dat Qfz, .dat Qfz, .dat QfA]⟩
def Q5.l1.os : List Out := [⟨(.exit 2), [.mask [2, 4, 10], .auto 0], ⟨us 2 ++ .ptr 0 [] :: us 1 ++ .ptr 1 [] :: us 5 ++ .ptr 2 [] :: us 178, [.dat QfA, .dat QfA, .dat QfA]⟩⟩]
abbrev Q5.l2.σ : Type := Int × (List Int) × (List Int) × (List Int) × Unit
abbrev Q5.l2.τ : Type := Qfx 
def Q5.l2.r (k : Nat) {ρ : Type} (x : Q5.l2.σ) (kn : Q5.l2.σ → Option ρ) (ke : Q5.l2.τ → Option ρ) : Option ρ :=
 bif (decide (x.1 < (8 : Int))) then (bif (decide (((0 : Int) ≤ x.1) ∧ (x.1 < ((8 : Nat) : Int)))) then (let v82 : Int := (List.getD x.2.1 (Int.toNat x.1) (0 : Int))
 bif (decide (((0 : Int) ≤ x.1) ∧ (x.1 < ((8 : Nat) : Int)))) then (let v83 : Int := (List.getD x.2.2.2.1 (Int.toNat x.1) (0 : Int))
 let v84 : Int := (IntKind.wrap IntKind.u32 (v82 + v83))
 bif (decide (((0 : Int) ≤ x.1) ∧ (x.1 < ((8 : Nat) : Int)))) then (let v85 : Int := (IntKind.wrap IntKind.i64 (x.1 + (1 : Int)))
 kn (v85, ((List.set x.2.1 (Int.toNat x.1) v84), (x.2.2.1, (x.2.2.2.1, ()))))) else (none)) else (none)) else (none)) else (ke (x.2.1, (x.2.2.1, ())))
def Q5.l2 (k : Nat) : Nat → Q5.l2.σ → Option Q5.l2.τ := Q14 (Q5.l2.r k)
def Q5.l2.T : StT := ⟨us 2 ++ .ptr 0 [] :: us 1 ++ .ptr 1 [] :: us 5 ++ .ptr 2 [] :: us 5 ++ .dat (.int .i64) :: us 172, [.dat QfA, .dat QfA, .dat QfA]⟩
def Q5.l2.os : List Out := [⟨(.exit 4), [.mask [2, 4], .auto 0], ⟨us 2 ++ .ptr 0 [] :: us 1 ++ .ptr 1 [] :: us 184, [.dat QfA, .dat QfA]⟩⟩]
def Q5.c (k : Nat) {ρ : Type} (s : (List Int)) (block : (List Int)) (K : (List Int) × Unit → Option ρ) : Option ρ :=
 (QZ k ).bind fun t0 => let v1 : (List Int) := (List.replicate 64 (0 : Int))
 (Q5.l0 k k ((0 : Int), (s, (block, ((List.replicate 8 (0 : Int)), (t0.1, (v1, ()))))))).bind fun t38 => let v39 : (List Int) := t38.1
 (Q5.l1 k k ((0 : Int), (t38.1, (t38.2.1, (t38.2.2.1, (t38.2.2.2.1, (v39, ()))))))).bind fun t81 => (Q5.l2 k k ((0 : Int), (t81.1, (t81.2.1, (t81.2.2.1, ()))))).bind fun t86 => let v87 : (List Int) := t86.1
 K (v87, ())
def Q5 (k : Nat) (s : (List Int)) (block : (List Int)) : Option QfD := Q5.c k s block some
def Q5.tin : List Ty := [QfA, QfB]
def Q5.tout : List Ty := [QfA]
def Q5.sem (k : Nat) : QP := QW Q5.tin Q5.tout fun x => Q5 k x.1 x.2.1
noncomputable def Q5.ctx (k : Nat) : Ctx := ⟨Tryz.prog, gam [(116, (QZ.sem k)), (117, (QY.sem k))]⟩
theorem Q5.gok (k : Nat) : ∀ f, QF Tryz.prog f ((Q5.ctx k).Γ f) := (Qk (QZ.sem_ok k) (Qk (QY.sem_ok k) QX))
theorem Q5.l0.round (k : Nat) : Q10 (Q5.ctx k) (QM (Func.code Tryz.f100) [1, 1, 1, 0, 1, 0, 0]) (.nil) Q5.l0.T [.mask [2, 3, 4, 5, 6, 7], .auto 0] Q5.l0.os (Q5.l0.r k) := by
 intro ρ x kn ke; kernel_rfl
theorem Q5.l0.ok (k : Nat) : StOK 0 Tryz.prog (.loop (QM (Func.code Tryz.f100) [1, 1, 1, 0, 1, 0, 0])) (Qn Q5.l0.T Q5.l0.os (Q5.l0 k k)) :=
 Q11 (C := Q5.ctx k) (Q5.gok k) Tryz.mix Q1.nil (by kernel_rfl) (by kernel_rfl) (by kernel_rfl) (Q5.l0.round k) k
theorem Q5.l1.round (k : Nat) : Q10 (Q5.ctx k) (QM (Func.code Tryz.f100) [1, 1, 1, 1, 1, 0, 1, 0, 0]) (.nil) Q5.l1.T [.mask [2, 4, 5, 6, 10, 11], .auto 0] Q5.l1.os (Q5.l1.r k) := by
 intro ρ x kn ke; kernel_rfl
theorem Q5.l1.ok (k : Nat) : StOK 0 Tryz.prog (.loop (QM (Func.code Tryz.f100) [1, 1, 1, 1, 1, 0, 1, 0, 0])) (Qn Q5.l1.T Q5.l1.os (Q5.l1 k k)) :=
 Q11 (C := Q5.ctx k) (Q5.gok k) Tryz.mix Q1.nil (by kernel_rfl) (by kernel_rfl) (by kernel_rfl) (Q5.l1.round k) k
theorem Q5.l2.round (k : Nat) : Q10 (Q5.ctx k) (QM (Func.code Tryz.f100) [1, 1, 1, 1, 1, 1, 0, 1, 0, 0]) (.nil) Q5.l2.T [.mask [2, 4, 10, 16], .auto 0] Q5.l2.os (Q5.l2.r k) := by
 intro ρ x kn ke; kernel_rfl
theorem Q5.l2.ok (k : Nat) : StOK 0 Tryz.prog (.loop (QM (Func.code Tryz.f100) [1, 1, 1, 1, 1, 1, 0, 1, 0, 0])) (Qn Q5.l2.T Q5.l2.os (Q5.l2 k k)) :=
 Q11 (C := Q5.ctx k) (Q5.gok k) Tryz.mix Q1.nil (by kernel_rfl) (by kernel_rfl) (by kernel_rfl) (Q5.l2.round k) k
def Q5.ann (k : Nat) : Ann := .node [] none (.nil) (.node [] none (.nil) (.node [] none (.nil) (.node [] none (.node [] none (.nil) (.node [] none (.node [.mask [2, 3, 4, 5, 6, 7], .auto 0] (some (Qn Q5.l0.T Q5.l0.os (Q5.l0 k k))) .nil .nil) (.nil))) (.node [] none (.nil) (.node [] none (.node [] none (.nil) (.node [] none (.node [.mask [2, 4, 5, 6, 10, 11], .auto 0] (some (Qn Q5.l1.T Q5.l1.os (Q5.l1 k k))) .nil .nil) (.nil))) (.node [] none (.node [] none (.nil) (.node [] none (.node [.mask [2, 4, 10, 16], .auto 0] (some (Qn Q5.l2.T Q5.l2.os (Q5.l2 k k))) .nil .nil) (.nil))) (.nil)))))))
theorem Q5.body (k : Nat) : Q0R (Q5.ctx k) Tryz.f100 (Func.code Tryz.f100) (Q5.ann k) Q5.tin Q5.tout (fun x K => Q5.c k x.1 x.2.1 K) := by
 intro ρ x K; kernel_rfl
theorem Q5.sem_ok (k : Nat) : QF Tryz.prog 100 (Q5.sem k) :=
 QD (C := Q5.ctx k) (Q5.gok k) Tryz.mix (c := Func.code Tryz.f100) (ann := Q5.ann k) (tin := Q5.tin) (tout := Q5.tout) (fun x K => Q5.c k x.1 x.2.1 K) Tryz.func100 (by kernel_rfl) (by kernel_rfl) (Q1.seq Q1.nil (Q1.seq Q1.nil (Q1.seq Q1.nil (Q1.seq (Q1.seq Q1.nil (Q1.block (Q1.loop (by kernel_rfl) (Q5.l0.ok k)))) (Q1.seq Q1.nil (Q1.seq (Q1.seq Q1.nil (Q1.block (Q1.loop (by kernel_rfl) (Q5.l1.ok k)))) (Q1.seq (Q1.seq Q1.nil (Q1.block (Q1.loop (by kernel_rfl) (Q5.l2.ok k)))) Q1.nil))))))) (Q5.body k)
abbrev Q9.l1.σ : Type := Int × Int × (List Int) × (List Int) × (List Int) × Unit
abbrev Q9.l1.τ : Type := (Int × (List Int) × (List Int) × (List Int) × Unit)
def Q9.l1.r (k : Nat) {ρ : Type} (x : Q9.l1.σ) (kn : Q9.l1.σ → Option ρ) (ke : Q9.l1.τ → Option ρ) : Option ρ :=
 bif (decide (x.2.1 < (4 : Int))) then (let v1 : Int := (IntKind.wrap IntKind.i64 ((4 : Int) * x.1))
 let v2 : Int := (IntKind.wrap IntKind.i64 (v1 + x.2.1))
 bif (decide (((0 : Int) ≤ x.1) ∧ (x.1 < ((8 : Nat) : Int)))) then (let v3 : Int := (List.getD x.2.2.1 (Int.toNat x.1) (0 : Int))
 let v4 : Int := (IntKind.wrap IntKind.i64 ((8 : Int) * x.2.1))
 let v5 : Int := (IntKind.wrap IntKind.i64 ((24 : Int) - v4))
 bif (decide ((0 : Int) ≤ v5)) then (bif (decide (((0 : Int) ≤ v2) ∧ (v2 < ((32 : Nat) : Int)))) then (let v6 : Int := (IntKind.wrap IntKind.i64 (x.2.1 + (1 : Int)))
 kn (x.1, (v6, (x.2.2.1, (x.2.2.2.1, ((List.set x.2.2.2.2.1 (Int.toNat v2) (IntKind.wrap IntKind.u8 (Q1H IntKind.u32 v3 v5))), ())))))) else (none)) else (none)) else (none)) else (ke (x.1, (x.2.2.1, (x.2.2.2.1, (x.2.2.2.2.1, ())))))
def Q9.l1 (k : Nat) : Nat → Q9.l1.σ → Option Q9.l1.τ := Q14 (Q9.l1.r k)
def Q9.l1.T : StT := ⟨us 1 ++ .ptr 0 [] :: .ptr 1 [] :: .ptr 2 [] :: .dat (.int .i64) :: .dat (.int .i64) :: us 23, [.dat QfA, .dat QfC, .dat QfC]⟩
def Q9.l1.os : List Out := [⟨(.exit 2), [.mask [1, 2, 3, 4], .auto 0], ⟨us 1 ++ .ptr 0 [] :: .ptr 1 [] :: .ptr 2 [] :: .dat (.int .i64) :: us 24, [.dat QfA, .dat QfC, .dat QfC]⟩⟩]
abbrev Q9.l0.σ : Type := Int × (List Int) × (List Int) × (List Int) × Unit
abbrev Q9.l0.τ : Type := Qfx 
def Q9.l0.r (k : Nat) {ρ : Type} (x : Q9.l0.σ) (kn : Q9.l0.σ → Option ρ) (ke : Q9.l0.τ → Option ρ) : Option ρ :=
 bif (decide (x.1 < (8 : Int))) then ((Q9.l1 k k (x.1, ((0 : Int), (x.2.1, (x.2.2.1, (x.2.2.2.1, ())))))).bind fun t7 => let v8 : Int := (IntKind.wrap IntKind.i64 (t7.1 + (1 : Int)))
 kn (v8, (t7.2.1, (t7.2.2.1, (t7.2.2.2.1, ()))))) else (ke (x.2.2.1, (x.2.2.2.1, ())))
def Q9.l0 (k : Nat) : Nat → Q9.l0.σ → Option Q9.l0.τ := Q14 (Q9.l0.r k)
def Q9.l0.T : StT := ⟨us 1 ++ .ptr 0 [] :: .ptr 1 [] :: .ptr 2 [] :: .dat (.int .i64) :: us 24, [.dat QfA, .dat QfC, .dat QfC]⟩
def Q9.l0.os : List Out := [⟨(.exit 0), [.mask [2, 3], .auto 0], ⟨us 2 ++ .ptr 0 [] :: .ptr 1 [] :: us 25, [.dat QfC, .dat QfC]⟩⟩]
def Q9.c (k : Nat) {ρ : Type} (x_0 : (List Int)) (K : (List Int) × Unit → Option ρ) : Option ρ :=
 let v0 : (List Int) := (List.replicate 32 (0 : Int))
 (Q9.l0 k k ((0 : Int), (x_0, ((List.replicate 32 (0 : Int)), (v0, ()))))).bind fun t9 => let v10 : (List Int) := t9.2.1
 K (v10, ())
def Q9 (k : Nat) (x_0 : (List Int)) : Option QfD := Q9.c k x_0 some
def Q9.tin : List Ty := [QfA]
def Q9.tout : List Ty := [QfC]
def Q9.sem (k : Nat) : QP := QW Q9.tin Q9.tout fun x => Q9 k x.1
noncomputable def Q9.ctx (k : Nat) : Ctx := ⟨Tryz.prog, gam []⟩
theorem Q9.gok (k : Nat) : ∀ f, QF Tryz.prog f ((Q9.ctx k).Γ f) := QX
theorem Q9.l1.round (k : Nat) : Q10 (Q9.ctx k) (QM (Func.code Tryz.f101) [1, 1, 0, 1, 0, 0, 1, 0, 0, 1, 0, 0]) (.nil) Q9.l1.T [.mask [1, 2, 3, 4, 5], .auto 0] Q9.l1.os (Q9.l1.r k) := by
 intro ρ x kn ke; kernel_rfl
theorem Q9.l1.ok (k : Nat) : StOK 0 Tryz.prog (.loop (QM (Func.code Tryz.f101) [1, 1, 0, 1, 0, 0, 1, 0, 0, 1, 0, 0])) (Qn Q9.l1.T Q9.l1.os (Q9.l1 k k)) :=
 Q11 (C := Q9.ctx k) (Q9.gok k) Tryz.mix Q1.nil (by kernel_rfl) (by kernel_rfl) (by kernel_rfl) (Q9.l1.round k) k
theorem Q9.l0.round (k : Nat) : Q10 (Q9.ctx k) (QM (Func.code Tryz.f101) [1, 1, 0, 1, 0, 0]) (.node [] none (.nil) (.node [] none (.node [] none (.node [] none (.nil) (.node [] none (.node [.mask [1, 2, 3, 4, 5], .auto 0] (some (Qn Q9.l1.T Q9.l1.os (Q9.l1 k k))) .nil .nil) (.nil))) (.nil)) (.nil))) Q9.l0.T [.mask [1, 2, 3, 4], .auto 0] Q9.l0.os (Q9.l0.r k) := by
 intro ρ x kn ke; kernel_rfl
theorem Q9.l0.ok (k : Nat) : StOK 0 Tryz.prog (.loop (QM (Func.code Tryz.f101) [1, 1, 0, 1, 0, 0])) (Qn Q9.l0.T Q9.l0.os (Q9.l0 k k)) :=
 Q11 (C := Q9.ctx k) (Q9.gok k) Tryz.mix (Q1.seq Q1.nil (Q1.seq (Q1.block (Q1.seq Q1.nil (Q1.block (Q1.loop (by kernel_rfl) (Q9.l1.ok k))))) Q1.nil)) (by kernel_rfl) (by kernel_rfl) (by kernel_rfl) (Q9.l0.round k) k
def Q9.ann (k : Nat) : Ann := .node [] none (.nil) (.node [] none (.nil) (.node [] none (.node [] none (.nil) (.node [] none (.node [.mask [1, 2, 3, 4], .auto 0] (some (Qn Q9.l0.T Q9.l0.os (Q9.l0 k k))) .nil .nil) (.nil))) (.nil)))
theorem Q9.body (k : Nat) : Q0R (Q9.ctx k) Tryz.f101 (Func.code Tryz.f101) (Q9.ann k) Q9.tin Q9.tout (fun x K => Q9.c k x.1 K) := by
 intro ρ x K; kernel_rfl
theorem Q9.sem_ok (k : Nat) : QF Tryz.prog 101 (Q9.sem k) :=
 QD (C := Q9.ctx k) (Q9.gok k) Tryz.mix (c := Func.code Tryz.f101) (ann := Q9.ann k) (tin := Q9.tin) (tout := Q9.tout) (fun x K => Q9.c k x.1 K) Tryz.func101 (by kernel_rfl) (by kernel_rfl) (Q1.seq Q1.nil (Q1.seq Q1.nil (Q1.seq (Q1.seq Q1.nil (Q1.block (Q1.loop (by kernel_rfl) (Q9.l0.ok k)))) Q1.nil))) (Q9.body k)
abbrev Qe.l1.σ : Type := ByteArray × Int × Int × (List Int) × (List Int) × (List Int) × Unit
abbrev Qe.l1.τ : Type := (ByteArray × Int × (List Int) × (List Int) × (List Int) × Unit)
def Qe.l1.r (k : Nat) {ρ : Type} (x : Qe.l1.σ) (kn : Qe.l1.σ → Option ρ) (ke : Qe.l1.τ → Option ρ) : Option ρ :=
 bif (decide (x.2.2.1 < (64 : Int))) then (let v5 : Int := (IntKind.wrap IntKind.i64 (x.2.1 + x.2.2.1))
 bif (decide (((0 : Int) ≤ v5) ∧ (v5 < (((ByteArray.size x.1) : Nat) : Int)))) then (let v6 : Int := (Q1u x.1 (Int.toNat v5))
 bif (decide (((0 : Int) ≤ x.2.2.1) ∧ (x.2.2.1 < ((64 : Nat) : Int)))) then (let v7 : Int := (IntKind.wrap IntKind.i64 (x.2.2.1 + (1 : Int)))
 kn (x.1, (x.2.1, (v7, (x.2.2.2.1, (x.2.2.2.2.1, ((List.set x.2.2.2.2.2.1 (Int.toNat x.2.2.1) v6), ()))))))) else (none)) else (none)) else (ke (x.1, (x.2.1, (x.2.2.2.1, (x.2.2.2.2.1, (x.2.2.2.2.2.1, ()))))))
def Qe.l1 (k : Nat) : Nat → Qe.l1.σ → Option Qe.l1.τ := Q14 (Qe.l1.r k)
def Qe.l1.T : StT := ⟨.dat .str :: us 1 ++ .ptr 0 [] :: .ptr 1 [] :: .dat (.int .i64) :: .ptr 2 [] :: .dat (.int .i64) :: us 30, [.dat QfC, .dat QfA, .dat QfB]⟩
def Qe.l1.os : List Out := [⟨(.exit 2), [.mask [0, 2, 3, 4, 5], .auto 0], ⟨.dat .str :: us 1 ++ .ptr 0 [] :: .ptr 1 [] :: .dat (.int .i64) :: .ptr 2 [] :: us 31, [.dat QfC, .dat QfA, .dat QfB]⟩⟩]
abbrev Qe.l0.σ : Type := ByteArray × Int × (List Int) × (List Int) × Unit
abbrev Qe.l0.τ : Type := Qfx 
def Qe.l0.r (k : Nat) {ρ : Type} (x : Qe.l0.σ) (kn : Qe.l0.σ → Option ρ) (ke : Qe.l0.τ → Option ρ) : Option ρ :=
 let v3 : Int := (((ByteArray.size x.1) : Nat) : Int)
 bif (decide (x.2.1 < v3)) then (let v4 : (List Int) := (List.replicate 64 (0 : Int))
 (Qe.l1 k k (x.1, (x.2.1, ((0 : Int), (x.2.2.1, (x.2.2.2.1, (v4, ()))))))).bind fun t8 => let v9 : (List Int) := t8.2.2.2.1
 let v10 : (List Int) := t8.2.2.2.2.1
 (Q5 k v9 v10).bind fun t11 => let v12 : Int := (IntKind.wrap IntKind.i64 (t8.2.1 + (64 : Int)))
 kn (t8.1, (v12, (t8.2.2.1, (t11.1, ()))))) else (ke (x.2.2.1, (x.2.2.2.1, ())))
def Qe.l0 (k : Nat) : Nat → Qe.l0.σ → Option Qe.l0.τ := Q14 (Qe.l0.r k)
def Qe.l0.T : StT := ⟨.dat .str :: us 1 ++ .ptr 0 [] :: .ptr 1 [] :: .dat (.int .i64) :: us 32, [.dat QfC, .dat QfA]⟩
def Qe.l0.os : List Out := [⟨(.exit 0), [.mask [2, 3], .auto 0], ⟨us 2 ++ .ptr 0 [] :: .ptr 1 [] :: us 33, [.dat QfC, .dat QfA]⟩⟩]
def Qe.c (k : Nat) {ρ : Type} (s : ByteArray) (K : (List Int) × Unit → Option ρ) : Option ρ :=
 (Qf k (IntKind.wrap IntKind.u64 (((ByteArray.size s) : Nat) : Int))).bind fun t0 => bif (Nat.ble ((ByteArray.size s) + (ByteArray.size t0.1)) 9223372036854775807) then (let v1 : ByteArray := (s ++ t0.1)
 (Q0x k ).bind fun t2 => (Qe.l0 k k (v1, ((0 : Int), ((List.replicate 32 (0 : Int)), (t2.1, ()))))).bind fun t13 => let v14 : (List Int) := t13.2.1
 (Q9 k v14).bind fun t15 => K (t15.1, ())) else (none)
def Qe (k : Nat) (s : ByteArray) : Option QfD := Qe.c k s some
def Qe.tin : List Ty := [.str]
def Qe.tout : List Ty := [QfC]
def Qe.sem (k : Nat) : QP := QW Qe.tin Qe.tout fun x => Qe k x.1
noncomputable def Qe.ctx (k : Nat) : Ctx := ⟨Tryz.prog, gam [(98, (Qf.sem k)), (99, (Q0x.sem k)), (100, (Q5.sem k)), (101, (Q9.sem k))]⟩
theorem Qe.gok (k : Nat) : ∀ f, QF Tryz.prog f ((Qe.ctx k).Γ f) := (Qk (Qf.sem_ok k) (Qk (Q0x.sem_ok k) (Qk (Q5.sem_ok k) (Qk (Q9.sem_ok k) QX))))
theorem Qe.l1.round (k : Nat) : Q10 (Qe.ctx k) (QM (Func.code Tryz.f64) [1, 1, 1, 0, 1, 0, 0, 1, 0, 0, 1, 0, 1, 0, 0]) (.nil) Qe.l1.T [.mask [0, 2, 3, 4, 5, 6], .auto 0] Qe.l1.os (Qe.l1.r k) := by
 intro ρ x kn ke; kernel_rfl
theorem Qe.l1.ok (k : Nat) : StOK 0 Tryz.prog (.loop (QM (Func.code Tryz.f64) [1, 1, 1, 0, 1, 0, 0, 1, 0, 0, 1, 0, 1, 0, 0])) (Qn Qe.l1.T Qe.l1.os (Qe.l1 k k)) :=
 Q11 (C := Qe.ctx k) (Qe.gok k) Tryz.mix Q1.nil (by kernel_rfl) (by kernel_rfl) (by kernel_rfl) (Qe.l1.round k) k
theorem Qe.l0.round (k : Nat) : Q10 (Qe.ctx k) (QM (Func.code Tryz.f64) [1, 1, 1, 0, 1, 0, 0]) (.node [] none (.nil) (.node [] none (.node [] none (.node [] none (.nil) (.node [] none (.node [] none (.nil) (.node [] none (.node [.mask [0, 2, 3, 4, 5, 6], .auto 0] (some (Qn Qe.l1.T Qe.l1.os (Qe.l1 k k))) .nil .nil) (.nil))) (.nil))) (.nil)) (.nil))) Qe.l0.T [.mask [0, 2, 3, 4], .auto 0] Qe.l0.os (Qe.l0.r k) := by
 intro ρ x kn ke; kernel_rfl
theorem Qe.l0.ok (k : Nat) : StOK 0 Tryz.prog (.loop (QM (Func.code Tryz.f64) [1, 1, 1, 0, 1, 0, 0])) (Qn Qe.l0.T Qe.l0.os (Qe.l0 k k)) :=
 Q11 (C := Qe.ctx k) (Qe.gok k) Tryz.mix (Q1.seq Q1.nil (Q1.seq (Q1.block (Q1.seq Q1.nil (Q1.seq (Q1.seq Q1.nil (Q1.block (Q1.loop (by kernel_rfl) (Qe.l1.ok k)))) Q1.nil))) Q1.nil)) (by kernel_rfl) (by kernel_rfl) (by kernel_rfl) (Qe.l0.round k) k
def Qe.ann (k : Nat) : Ann := .node [] none (.nil) (.node [] none (.nil) (.node [] none (.nil) (.node [] none (.node [] none (.nil) (.node [] none (.node [.mask [0, 2, 3, 4], .auto 0] (some (Qn Qe.l0.T Qe.l0.os (Qe.l0 k k))) .nil .nil) (.nil))) (.nil))))
theorem Qe.body (k : Nat) : Q0R (Qe.ctx k) Tryz.f64 (Func.code Tryz.f64) (Qe.ann k) Qe.tin Qe.tout (fun x K => Qe.c k x.1 K) := by
 intro ρ x K; kernel_rfl
theorem Qe.sem_ok (k : Nat) : QF Tryz.prog 64 (Qe.sem k) :=
 QD (C := Qe.ctx k) (Qe.gok k) Tryz.mix (c := Func.code Tryz.f64) (ann := Qe.ann k) (tin := Qe.tin) (tout := Qe.tout) (fun x K => Qe.c k x.1 K) Tryz.func64 (by kernel_rfl) (by kernel_rfl) (Q1.seq Q1.nil (Q1.seq Q1.nil (Q1.seq Q1.nil (Q1.seq (Q1.seq Q1.nil (Q1.block (Q1.loop (by kernel_rfl) (Qe.l0.ok k)))) Q1.nil)))) (Qe.body k)
def Q0p.c (k : Nat) {ρ : Type} (s : ByteArray) (K : (List Int) × Unit → Option ρ) : Option ρ :=
 (Qe k s).bind fun t0 => let v1 : ByteArray := (bytesOf (List.take 32 (List.drop 0 t0.1)))
 (Qe k v1).bind fun t2 => K (t2.1, ())
def Q0p (k : Nat) (s : ByteArray) : Option QfD := Q0p.c k s some
def Q0p.tin : List Ty := [.str]
def Q0p.tout : List Ty := [QfC]
def Q0p.sem (k : Nat) : QP := QW Q0p.tin Q0p.tout fun x => Q0p k x.1
noncomputable def Q0p.ctx (k : Nat) : Ctx := ⟨Tryz.prog, gam [(64, (Qe.sem k))]⟩
theorem Q0p.gok (k : Nat) : ∀ f, QF Tryz.prog f ((Q0p.ctx k).Γ f) := (Qk (Qe.sem_ok k) QX)
def Q0p.ann (k : Nat) : Ann := .nil
theorem Q0p.body (k : Nat) : Q0R (Q0p.ctx k) Tryz.f37 (Func.code Tryz.f37) (Q0p.ann k) Q0p.tin Q0p.tout (fun x K => Q0p.c k x.1 K) := by
 intro ρ x K; kernel_rfl
theorem Q0p.sem_ok (k : Nat) : QF Tryz.prog 37 (Q0p.sem k) :=
 QD (C := Q0p.ctx k) (Q0p.gok k) Tryz.mix (c := Func.code Tryz.f37) (ann := Q0p.ann k) (tin := Q0p.tin) (tout := Q0p.tout) (fun x K => Q0p.c k x.1 K) Tryz.func37 (by kernel_rfl) (by kernel_rfl) Q1.nil (Q0p.body k)
end Go.Am
