/- A part of a proof: a machine of abstract values that tells what functions of the program compute, and the plain facts on them. -/
import Derived.Test.YtnibopdcpbebcaaGreatAm11
import Derived.KernelRfl
set_option linter.unusedVariables false
set_option linter.unusedSimpArgs false
set_option linter.unnecessarySimpa false
set_option linter.unusedSectionVars false
namespace Go.Am
abbrev Qi9 : Ty := (.arr 32 (.int .u8))
abbrev Qi8 : Type := (List (Int × (ByteArray × Unit)))
abbrev Qi7 : Ty := (.sl (.pair (.int .u64) (.pair .str .unit)))
abbrev Qi6 : Type := (List (((List Int) × (Int × Unit)) × (ByteArray × (Int × Unit))))
abbrev Qi5 : Type := (Int × ((List Int) × ((List Int) × (Int × (Int × (Int × Unit))))))
abbrev Qi4 : Type := ( Qi5  × Int × Unit)
abbrev Qi3 : Type := (Int ×  Qi5  × Unit)
abbrev Qi2 : Type := (ByteArray × Int ×  Qi5  × Unit)
abbrev Qi1 : Ty := (.sl (.pair (.pair  Qi9  (.pair (.int .u32) .unit)) (.pair .str (.pair (.int .u32) .unit))))
abbrev Qi0 : Type := (Int × ( Qi6  × ( Qi8  × (Int × Unit))))
abbrev QhZ : Ty := (.pair (.int .u32) (.pair  Qi9  (.pair  Qi9  (.pair (.int .u32) (.pair (.int .u32) (.pair (.int .u32) .unit))))))
abbrev QhY : Ty := (.pair (.int .u32) (.pair  Qi1  (.pair  Qi7  (.pair (.int .u32) .unit))))
end Go.Am
namespace Go.Am
open Go Go.Proofs
set_option maxRecDepth 100000
abbrev Qa.l0.σ : Type := Qi6 × Qi6 × Int × Int × Unit
abbrev Qa.l0.τ : Type := (Bool × Unit) ⊕ (Unit)
def Qa.l0.r (k : Nat) {ρ : Type} (x : Qa.l0.σ) (kn : Qa.l0.σ → Option ρ) (ke : Qa.l0.τ → Option ρ) : Option ρ :=
 bif (decide (x.2.2.2.1 < x.2.2.1)) then (bif (decide (((0 : Int) ≤ x.2.2.2.1) ∧ (x.2.2.2.1 < (((List.length x.1) : Nat) : Int)))) then (bif (decide (((0 : Int) ≤ x.2.2.2.1) ∧ (x.2.2.2.1 < (((List.length x.2.1) : Nat) : Int)))) then (bif (!(((decide ((List.getD x.1 (Int.toNat x.2.2.2.1) (((List.replicate 32 (0 : Int)), ((0 : Int), ())), (ByteArray.empty, ((0 : Int), ())))).1.1 = (List.getD x.2.1 (Int.toNat x.2.2.2.1) (((List.replicate 32 (0 : Int)), ((0 : Int), ())), (ByteArray.empty, ((0 : Int), ())))).1.1)) && (((List.getD x.1 (Int.toNat x.2.2.2.1) (((List.replicate 32 (0 : Int)), ((0 : Int), ())), (ByteArray.empty, ((0 : Int), ())))).1.2.1 == (List.getD x.2.1 (Int.toNat x.2.2.2.1) (((List.replicate 32 (0 : Int)), ((0 : Int), ())), (ByteArray.empty, ((0 : Int), ())))).1.2.1) && true)) && ((Q2Y (List.getD x.1 (Int.toNat x.2.2.2.1) (((List.replicate 32 (0 : Int)), ((0 : Int), ())), (ByteArray.empty, ((0 : Int), ())))).2.1 (List.getD x.2.1 (Int.toNat x.2.2.2.1) (((List.replicate 32 (0 : Int)), ((0 : Int), ())), (ByteArray.empty, ((0 : Int), ())))).2.1) && (((List.getD x.1 (Int.toNat x.2.2.2.1) (((List.replicate 32 (0 : Int)), ((0 : Int), ())), (ByteArray.empty, ((0 : Int), ())))).2.2.1 == (List.getD x.2.1 (Int.toNat x.2.2.2.1) (((List.replicate 32 (0 : Int)), ((0 : Int), ())), (ByteArray.empty, ((0 : Int), ())))).2.2.1) && true)))) then (ke (.inl (false, ()))) else (let v3 : Int := (IntKind.wrap IntKind.i64 (x.2.2.2.1 + (1 : Int)))
 kn (x.1, (x.2.1, (x.2.2.1, (v3, ())))))) else (none)) else (none)) else (ke (.inr ()))
def Qa.l0 (k : Nat) : Nat → Qa.l0.σ → Option Qa.l0.τ := Q15 (Qa.l0.r k)
def Qa.l0.T : StT := ⟨.dat Qi1 :: .dat Qi1 :: us 10 ++ .dat (.int .i64) :: .dat (.int .i64) :: us 12, []⟩
def Qa.l0.os : List Out := [⟨.ret, [.mask [4], .auto 0], ⟨us 4 ++ .dat .bool :: us 21, []⟩⟩, ⟨(.exit 0), [.mask [], .auto 0], ⟨us 26, []⟩⟩]
def Qa.c (k : Nat) {ρ : Type} (s1 : Qi6) (s2 : Qi6) (K : Bool × Unit → Option ρ) : Option ρ :=
 let v0 : Int := (((List.length s1) : Nat) : Int)
 let v1 : Int := (((List.length s2) : Nat) : Int)
 bif (v0 != v1) then (K (false, ())) else (let v2 : Int := (((List.length s1) : Nat) : Int)
 (Qa.l0 k k (s1, (s2, (v2, ((0 : Int), ()))))).bind fun t4 => (match t4 with | .inl t5 => (K (t5.1, ())) | .inr (t6) => (K (true, ()))))
def Qa (k : Nat) (s1 : Qi6) (s2 : Qi6) : Option (Bool × Unit) := Qa.c k s1 s2 some
def Qa.tin : List Ty := [Qi1, Qi1]
def Qa.tout : List Ty := [.bool]
def Qa.sem (k : Nat) : QT := Q00 Qa.tin Qa.tout fun x => Qa k x.1 x.2.1
noncomputable def Qa.ctx (k : Nat) : Ctx := ⟨Tryz.prog, gam []⟩
theorem Qa.gok (k : Nat) : ∀ f, QI Tryz.prog f ((Qa.ctx k).Γ f) := Q01
theorem Qa.l0.round (k : Nat) : Q14 (Qa.ctx k) (QP (Func.code Tryz.f88) [1, 1, 0, 1, 0, 0]) (.nil) Qa.l0.T [.mask [0, 1, 12, 13], .auto 0] Qa.l0.os (Qa.l0.r k) := by
 intro ρ x kn ke; kernel_rfl
theorem Qa.l0.ok (k : Nat) : StOK 0 Tryz.prog (.loop (QP (Func.code Tryz.f88) [1, 1, 0, 1, 0, 0])) (Qp Qa.l0.T Qa.l0.os (Qa.l0 k k)) :=
 Q16 (C := Qa.ctx k) (Qa.gok k) Tryz.mix Q1.nil (by kernel_rfl) (by kernel_rfl) (by kernel_rfl) (Qa.l0.round k) k
def Qa.ann (k : Nat) : Ann := .node [] none (.nil) (.node [] none (.nil) (.node [] none (.node [] none (.nil) (.node [] none (.node [] (some (Qp Qa.l0.T Qa.l0.os (Qa.l0 k k))) .nil .nil) (.nil))) (.nil)))
theorem Qa.body (k : Nat) : Q0W (Qa.ctx k) Tryz.f88 (Func.code Tryz.f88) (Qa.ann k) Qa.tin Qa.tout (fun x K => Qa.c k x.1 x.2.1 K) := by
 intro ρ x K; kernel_rfl
theorem Qa.sem_ok (k : Nat) : QI Tryz.prog 88 (Qa.sem k) :=
 QG (C := Qa.ctx k) (Qa.gok k) Tryz.mix (c := Func.code Tryz.f88) (ann := Qa.ann k) (tin := Qa.tin) (tout := Qa.tout) (fun x K => Qa.c k x.1 x.2.1 K) Tryz.func88 (by kernel_rfl) (by kernel_rfl) (Q1.seq Q1.nil (Q1.seq Q1.nil (Q1.seq (Q1.seq Q1.nil (Q1.block (Q1.loop (by kernel_rfl) (Qa.l0.ok k)))) Q1.nil))) (Qa.body k)
abbrev Q7.l0.σ : Type := Qi8 × Qi8 × Int × Int × Unit
abbrev Q7.l0.τ : Type := (Bool × Unit) ⊕ (Unit)
def Q7.l0.r (k : Nat) {ρ : Type} (x : Q7.l0.σ) (kn : Q7.l0.σ → Option ρ) (ke : Q7.l0.τ → Option ρ) : Option ρ :=
 bif (decide (x.2.2.2.1 < x.2.2.1)) then (bif (decide (((0 : Int) ≤ x.2.2.2.1) ∧ (x.2.2.2.1 < (((List.length x.1) : Nat) : Int)))) then (bif (decide (((0 : Int) ≤ x.2.2.2.1) ∧ (x.2.2.2.1 < (((List.length x.2.1) : Nat) : Int)))) then (bif (!(((List.getD x.1 (Int.toNat x.2.2.2.1) ((0 : Int), (ByteArray.empty, ()))).1 == (List.getD x.2.1 (Int.toNat x.2.2.2.1) ((0 : Int), (ByteArray.empty, ()))).1) && ((Q2Y (List.getD x.1 (Int.toNat x.2.2.2.1) ((0 : Int), (ByteArray.empty, ()))).2.1 (List.getD x.2.1 (Int.toNat x.2.2.2.1) ((0 : Int), (ByteArray.empty, ()))).2.1) && true))) then (ke (.inl (false, ()))) else (let v3 : Int := (IntKind.wrap IntKind.i64 (x.2.2.2.1 + (1 : Int)))
 kn (x.1, (x.2.1, (x.2.2.1, (v3, ())))))) else (none)) else (none)) else (ke (.inr ()))
def Q7.l0 (k : Nat) : Nat → Q7.l0.σ → Option Q7.l0.τ := Q15 (Q7.l0.r k)
def Q7.l0.T : StT := ⟨.dat Qi7 :: .dat Qi7 :: us 10 ++ .dat (.int .i64) :: .dat (.int .i64) :: us 12, []⟩
def Q7.l0.os : List Out := [⟨.ret, [.mask [4], .auto 0], ⟨us 4 ++ .dat .bool :: us 21, []⟩⟩, ⟨(.exit 0), [.mask [], .auto 0], ⟨us 26, []⟩⟩]
def Q7.c (k : Nat) {ρ : Type} (s1 : Qi8) (s2 : Qi8) (K : Bool × Unit → Option ρ) : Option ρ :=
 let v0 : Int := (((List.length s1) : Nat) : Int)
 let v1 : Int := (((List.length s2) : Nat) : Int)
 bif (v0 != v1) then (K (false, ())) else (let v2 : Int := (((List.length s1) : Nat) : Int)
 (Q7.l0 k k (s1, (s2, (v2, ((0 : Int), ()))))).bind fun t4 => (match t4 with | .inl t5 => (K (t5.1, ())) | .inr (t6) => (K (true, ()))))
def Q7 (k : Nat) (s1 : Qi8) (s2 : Qi8) : Option (Bool × Unit) := Q7.c k s1 s2 some
def Q7.tin : List Ty := [Qi7, Qi7]
def Q7.tout : List Ty := [.bool]
def Q7.sem (k : Nat) : QT := Q00 Q7.tin Q7.tout fun x => Q7 k x.1 x.2.1
noncomputable def Q7.ctx (k : Nat) : Ctx := ⟨Tryz.prog, gam []⟩
theorem Q7.gok (k : Nat) : ∀ f, QI Tryz.prog f ((Q7.ctx k).Γ f) := Q01
theorem Q7.l0.round (k : Nat) : Q14 (Q7.ctx k) (QP (Func.code Tryz.f89) [1, 1, 0, 1, 0, 0]) (.nil) Q7.l0.T [.mask [0, 1, 12, 13], .auto 0] Q7.l0.os (Q7.l0.r k) := by
 intro ρ x kn ke; kernel_rfl
theorem Q7.l0.ok (k : Nat) : StOK 0 Tryz.prog (.loop (QP (Func.code Tryz.f89) [1, 1, 0, 1, 0, 0])) (Qp Q7.l0.T Q7.l0.os (Q7.l0 k k)) :=
 Q16 (C := Q7.ctx k) (Q7.gok k) Tryz.mix Q1.nil (by kernel_rfl) (by kernel_rfl) (by kernel_rfl) (Q7.l0.round k) k
def Q7.ann (k : Nat) : Ann := .node [] none (.nil) (.node [] none (.nil) (.node [] none (.node [] none (.nil) (.node [] none (.node [] (some (Qp Q7.l0.T Q7.l0.os (Q7.l0 k k))) .nil .nil) (.nil))) (.nil)))
theorem Q7.body (k : Nat) : Q0W (Q7.ctx k) Tryz.f89 (Func.code Tryz.f89) (Q7.ann k) Q7.tin Q7.tout (fun x K => Q7.c k x.1 x.2.1 K) := by
 intro ρ x K; kernel_rfl
theorem Q7.sem_ok (k : Nat) : QI Tryz.prog 89 (Q7.sem k) :=
 QG (C := Q7.ctx k) (Q7.gok k) Tryz.mix (c := Func.code Tryz.f89) (ann := Q7.ann k) (tin := Q7.tin) (tout := Q7.tout) (fun x K => Q7.c k x.1 x.2.1 K) Tryz.func89 (by kernel_rfl) (by kernel_rfl) (Q1.seq Q1.nil (Q1.seq Q1.nil (Q1.seq (Q1.seq Q1.nil (Q1.block (Q1.loop (by kernel_rfl) (Q7.l0.ok k)))) Q1.nil))) (Q7.body k)
def Q1O.c (k : Nat) {ρ : Type} (a : Qi0) (b : Qi0) (K : Bool × Unit → Option ρ) : Option ρ :=
 let v0 : Int := a.1
 let v1 : Int := b.1
 bif (v0 == v1) then (let v2 : Int := a.2.2.2.1
 let v3 : Int := b.2.2.2.1
 bif (v2 == v3) then (let v4 : Qi6 := a.2.1
 let v5 : Qi6 := b.2.1
 (Qa k v4 v5).bind fun t6 => bif t6.1 then (let v7 : Qi8 := a.2.2.1
 let v8 : Qi8 := b.2.2.1
 (Q7 k v7 v8).bind fun t9 => K (t9.1, ())) else (K (false, ()))) else (K (false, ()))) else (K (false, ()))
def Q1O (k : Nat) (a : Qi0) (b : Qi0) : Option (Bool × Unit) := Q1O.c k a b some
def Q1O.tin : List Ty := [QhY, QhY]
def Q1O.tout : List Ty := [.bool]
def Q1O.sem (k : Nat) : QT := Q00 Q1O.tin Q1O.tout fun x => Q1O k x.1 x.2.1
noncomputable def Q1O.ctx (k : Nat) : Ctx := ⟨Tryz.prog, gam [(88, (Qa.sem k)), (89, (Q7.sem k))]⟩
theorem Q1O.gok (k : Nat) : ∀ f, QI Tryz.prog f ((Q1O.ctx k).Γ f) := (Ql (Qa.sem_ok k) (Ql (Q7.sem_ok k) Q01))
def Q1O.ann (k : Nat) : Ann := .nil
theorem Q1O.body (k : Nat) : Q0W (Q1O.ctx k) Tryz.f55 (Func.code Tryz.f55) (Q1O.ann k) Q1O.tin Q1O.tout (fun x K => Q1O.c k x.1 x.2.1 K) := by
 intro ρ x K; kernel_rfl
theorem Q1O.sem_ok (k : Nat) : QI Tryz.prog 55 (Q1O.sem k) :=
 QG (C := Q1O.ctx k) (Q1O.gok k) Tryz.mix (c := Func.code Tryz.f55) (ann := Q1O.ann k) (tin := Q1O.tin) (tout := Q1O.tout) (fun x K => Q1O.c k x.1 x.2.1 K) Tryz.func55 (by kernel_rfl) (by kernel_rfl) Q1.nil (Q1O.body k)
end Go.Am
namespace Go.Am
open Go Go.Proofs
set_option maxRecDepth 100000
abbrev Q0y.τ : Type := ((List Int) × (ByteArray × (Int × (Int × Unit))) × Unit)
def Q0y.c (k : Nat) {ρ : Type} (b0 : (ByteArray × (Int × (Int × Unit)))) (K : Q0y.τ → Option ρ) : Option ρ :=
 (Q03 k (32 : Int) (b0.1, (b0.2.1, (b0.2.2.1, ())))).bind fun t0 => let v1 : Int := (((Min.min (List.length (Qq t0.1)) 32) : Nat) : Int)
 let v2 : (List Int) := (Q2C (List.replicate 32 (0 : Int)) 0 (Qq t0.1) (Min.min (List.length (Qq t0.1)) 32))
 K (v2, ((t0.2.1.1, (t0.2.1.2.1, (t0.2.1.2.2.1, ()))), ()))
def Q0y (k : Nat) (b0 : (ByteArray × (Int × (Int × Unit)))) : Option Q0y.τ := Q0y.c k b0 some
def Q0y.T : Q27 := ⟨[.ptr 0 []], [.dat (.pair .str (.pair (.int .i64) (.pair (.int .i64) .unit)))], 1⟩
def Q0y.os : List Out := [⟨.ret, [.freeze (.slot 0), .auto 1], ⟨[.dat Qi9], [.dat (.pair .str (.pair (.int .i64) (.pair (.int .i64) .unit)))]⟩⟩]
def Q0y.sem (k : Nat) : QT := Q2j Q0y.T Q0y.os fun x => Q0y k x.1
noncomputable def Q0y.ctx (k : Nat) : Ctx := ⟨Tryz.prog, gam [(59, (Q03.sem k))]⟩
theorem Q0y.gok (k : Nat) : ∀ f, QI Tryz.prog f ((Q0y.ctx k).Γ f) := (Ql (Q03.sem_ok k) Q01)
def Q0y.ann (k : Nat) : Ann := .nil
theorem Q0y.body (k : Nat) : Q2k (Q0y.ctx k) Tryz.f29 (Func.code Tryz.f29) (Q0y.ann k) Q0y.T Q0y.os (fun x K => Q0y.c k x.1 K) := by
 intro ρ x K; kernel_rfl
theorem Q0y.sem_ok (k : Nat) : QI Tryz.prog 29 (Q0y.sem k) :=
 Q1G (C := Q0y.ctx k) (Q0y.gok k) Tryz.mix (c := Func.code Tryz.f29) (ann := Q0y.ann k) (T := Q0y.T) (os := Q0y.os) (fun x K => Q0y.c k x.1 K) Tryz.func29 (by kernel_rfl) (by kernel_rfl) Q1.nil (Q0y.body k) (by kernel_rfl) (by kernel_rfl) (by kernel_rfl)
abbrev QJ.p0.σ : Type := ByteArray × Int × Qi5 × Unit
abbrev QJ.p0.τ : Type := Qi3 ⊕ Qi2 
def QJ.p0.r (k : Nat) {ρ : Type} (x : QJ.p0.σ) (K : QJ.p0.τ → Option ρ) : Option ρ :=
 bif (decide (x.2.1 < (0 : Int))) then (K (.inl ((1 : Int), (((0 : Int), ((List.replicate 32 (0 : Int)), ((List.replicate 32 (0 : Int)), ((0 : Int), ((0 : Int), ((0 : Int), ())))))), ())))) else (let v0 : Int := (((ByteArray.size x.1) : Nat) : Int)
 bif (decide (x.2.1 > v0)) then (K (.inl ((1 : Int), (((0 : Int), ((List.replicate 32 (0 : Int)), ((List.replicate 32 (0 : Int)), ((0 : Int), ((0 : Int), ((0 : Int), ())))))), ())))) else (K (.inr (x.1, (x.2.1, ((x.2.2.1.1, (x.2.2.1.2.1, (x.2.2.1.2.2.1, (x.2.2.1.2.2.2.1, (x.2.2.1.2.2.2.2.1, (x.2.2.1.2.2.2.2.2.1, ())))))), ()))))))
def QJ.p0 (k : Nat) (x : QJ.p0.σ) : Option QJ.p0.τ := QJ.p0.r k x some
def QJ.p0.T : StT := ⟨.dat .str :: .dat (.int .i64) :: us 2 ++ .ptr 0 [] :: us 41, [.dat QhZ]⟩
def QJ.p0.os : List Out := [⟨.ret, [.mask [4, 5], .auto 0], ⟨us 4 ++ .ptr 0 [] :: .dat (.int .i64) :: us 40, [.dat QhZ]⟩⟩, ⟨.normal, [.mask [0, 1, 4], .auto 0], ⟨.dat .str :: .dat (.int .i64) :: us 2 ++ .ptr 0 [] :: us 41, [.dat QhZ]⟩⟩]
def QJ.c (k : Nat) {ρ : Type} (s : ByteArray) (at_1 : Int) (K : Qi5 × Int × Unit → Option ρ) : Option ρ :=
 (QJ.p0 k (s, (at_1, (((0 : Int), ((List.replicate 32 (0 : Int)), ((List.replicate 32 (0 : Int)), ((0 : Int), ((0 : Int), ((0 : Int), ())))))), ())))).bind fun t1 => (match t1 with | .inl t2 => (K ((t2.2.1.1, (t2.2.1.2.1, (t2.2.1.2.2.1, (t2.2.1.2.2.2.1, (t2.2.1.2.2.2.2.1, (t2.2.1.2.2.2.2.2.1, ())))))), (t2.1, ()))) | .inr (t3) => (bif (decide (((0 : Int) ≤ t3.2.1) ∧ ((t3.2.1 ≤ (((ByteArray.size t3.1) : Nat) : Int)) ∧ ((((ByteArray.size t3.1) : Nat) : Int) ≤ (((ByteArray.size t3.1) : Nat) : Int))))) then (let v4 : ByteArray := (ByteArray.extract t3.1 (Int.toNat t3.2.1) (Int.toNat (((ByteArray.size t3.1) : Nat) : Int)))
 (Q0A k v4).bind fun t5 => (Q0p k (t5.1.1, (t5.1.2.1, (t5.1.2.2.1, ())))).bind fun t6 => (Q0y k (t6.2.1.1, (t6.2.1.2.1, (t6.2.1.2.2.1, ())))).bind fun t7 => (Q0y k (t7.2.1.1, (t7.2.1.2.1, (t7.2.1.2.2.1, ())))).bind fun t8 => (Q0p k (t8.2.1.1, (t8.2.1.2.1, (t8.2.1.2.2.1, ())))).bind fun t9 => (Q0p k (t9.2.1.1, (t9.2.1.2.1, (t9.2.1.2.2.1, ())))).bind fun t10 => (Q0p k (t10.2.1.1, (t10.2.1.2.1, (t10.2.1.2.2.1, ())))).bind fun t11 => (Q0n k (t11.2.1.1, (t11.2.1.2.1, (t11.2.1.2.2.1, ())))).bind fun t12 => bif (t12.1 != (0 : Int)) then ((Q0n k (t12.2.1.1, (t12.2.1.2.1, (t12.2.1.2.2.1, ())))).bind fun t13 => K (((0 : Int), ((List.replicate 32 (0 : Int)), ((List.replicate 32 (0 : Int)), ((0 : Int), ((0 : Int), ((0 : Int), ())))))), (t13.1, ()))) else (K ((t6.1, (t7.1, (t8.1, (t9.1, (t10.1, (t11.1, ())))))), ((0 : Int), ())))) else (none)))
def QJ (k : Nat) (s : ByteArray) (at_1 : Int) : Option Qi4 := QJ.c k s at_1 some
def QJ.tin : List Ty := [.str, (.int .i64)]
def QJ.tout : List Ty := [QhZ, (.int .i64)]
def QJ.sem (k : Nat) : QT := Q00 QJ.tin QJ.tout fun x => QJ k x.1 x.2.1
noncomputable def QJ.ctx (k : Nat) : Ctx := ⟨Tryz.prog, gam [(27, (Q0A.sem k)), (28, (Q0p.sem k)), (29, (Q0y.sem k)), (30, (Q0n.sem k))]⟩
theorem QJ.gok (k : Nat) : ∀ f, QI Tryz.prog f ((QJ.ctx k).Γ f) := (Ql (Q0A.sem_ok k) (Ql (Q0p.sem_ok k) (Ql (Q0y.sem_ok k) (Ql (Q0n.sem_ok k) Q01))))
theorem QJ.p0.is (k : Nat) : Q22 (QJ.ctx k) (QP (Func.code Tryz.f6) [1, 0]) (.nil) QJ.p0.T QJ.p0.os (QJ.p0.r k) := by
 intro ρ x K; kernel_rfl
theorem QJ.p0.ok (k : Nat) : StOK 0 Tryz.prog (QP (Func.code Tryz.f6) [1, 0]) (Qp QJ.p0.T QJ.p0.os (QJ.p0 k)) :=
 Q1X (C := QJ.ctx k) (T := QJ.p0.T) (os := QJ.p0.os) (QJ.gok k) Tryz.mix (fun x K => QJ.p0.r k x K) Q1.nil (by kernel_rfl) (by kernel_rfl) (QJ.p0.is k)
def QJ.ann (k : Nat) : Ann := .node [] none (.nil) (.node [] none (.node [.mask [0, 1, 4], .auto 0] (some (Qp QJ.p0.T QJ.p0.os (QJ.p0 k))) .nil .nil) (.nil))
theorem QJ.body (k : Nat) : Q0W (QJ.ctx k) Tryz.f6 (Func.code Tryz.f6) (QJ.ann k) QJ.tin QJ.tout (fun x K => QJ.c k x.1 x.2.1 K) := by
 intro ρ x K; kernel_rfl
theorem QJ.sem_ok (k : Nat) : QI Tryz.prog 6 (QJ.sem k) :=
 QG (C := QJ.ctx k) (QJ.gok k) Tryz.mix (c := Func.code Tryz.f6) (ann := QJ.ann k) (tin := QJ.tin) (tout := QJ.tout) (fun x K => QJ.c k x.1 x.2.1 K) Tryz.func6 (by kernel_rfl) (by kernel_rfl) (Q1.seq Q1.nil (Q1.seq (Q1.loop (by kernel_rfl) (QJ.p0.ok k)) Q1.nil)) (QJ.body k)
abbrev Qt.l0.σ : Type := ByteArray × Int × Int × Unit
abbrev Qt.l0.τ : Type := (Int × Unit)
def Qt.l0.r (k : Nat) {ρ : Type} (x : Qt.l0.σ) (kn : Qt.l0.σ → Option ρ) (ke : Qt.l0.τ → Option ρ) : Option ρ :=
 bif (decide (x.2.2.1 ≥ (0 : Int))) then (let v1 : Int := (IntKind.wrap IntKind.u64 (x.2.1 * (256 : Int)))
 bif (decide (((0 : Int) ≤ x.2.2.1) ∧ (x.2.2.1 < (((ByteArray.size x.1) : Nat) : Int)))) then (let v2 : Int := (Q1v x.1 (Int.toNat x.2.2.1))
 let v3 : Int := (IntKind.wrap IntKind.u64 (v1 + (IntKind.wrap IntKind.u64 v2)))
 let v4 : Int := (IntKind.wrap IntKind.i64 (x.2.2.1 - (1 : Int)))
 kn (x.1, (v3, (v4, ())))) else (none)) else (ke (x.2.1, ()))
def Qt.l0 (k : Nat) : Nat → Qt.l0.σ → Option Qt.l0.τ := Q15 (Qt.l0.r k)
def Qt.l0.T : StT := ⟨.dat .str :: us 2 ++ .dat (.int .u64) :: .dat (.int .i64) :: us 15, []⟩
def Qt.l0.os : List Out := [⟨(.exit 0), [.mask [3], .auto 0], ⟨us 3 ++ .dat (.int .u64) :: us 16, []⟩⟩]
def Qt.c (k : Nat) {ρ : Type} (s : ByteArray) (K : Int × Unit → Option ρ) : Option ρ :=
 let v0 : Int := (IntKind.wrap IntKind.i64 ((((ByteArray.size s) : Nat) : Int) - (1 : Int)))
 (Qt.l0 k k (s, ((0 : Int), (v0, ())))).bind fun t5 => K (t5.1, ())
def Qt (k : Nat) (s : ByteArray) : Option (Int × Unit) := Qt.c k s some
def Qt.tin : List Ty := [.str]
def Qt.tout : List Ty := [(.int .u64)]
def Qt.sem (k : Nat) : QT := Q00 Qt.tin Qt.tout fun x => Qt k x.1
noncomputable def Qt.ctx (k : Nat) : Ctx := ⟨Tryz.prog, gam []⟩
theorem Qt.gok (k : Nat) : ∀ f, QI Tryz.prog f ((Qt.ctx k).Γ f) := Q01
theorem Qt.l0.round (k : Nat) : Q14 (Qt.ctx k) (QP (Func.code Tryz.f31) [1, 1, 0, 1, 0, 0]) (.nil) Qt.l0.T [.mask [0, 3, 4], .auto 0] Qt.l0.os (Qt.l0.r k) := by
 intro ρ x kn ke; kernel_rfl
theorem Qt.l0.ok (k : Nat) : StOK 0 Tryz.prog (.loop (QP (Func.code Tryz.f31) [1, 1, 0, 1, 0, 0])) (Qp Qt.l0.T Qt.l0.os (Qt.l0 k k)) :=
 Q16 (C := Qt.ctx k) (Qt.gok k) Tryz.mix Q1.nil (by kernel_rfl) (by kernel_rfl) (by kernel_rfl) (Qt.l0.round k) k
def Qt.ann (k : Nat) : Ann := .node [] none (.nil) (.node [] none (.nil) (.node [] none (.node [] none (.nil) (.node [] none (.node [] (some (Qp Qt.l0.T Qt.l0.os (Qt.l0 k k))) .nil .nil) (.nil))) (.nil)))
theorem Qt.body (k : Nat) : Q0W (Qt.ctx k) Tryz.f31 (Func.code Tryz.f31) (Qt.ann k) Qt.tin Qt.tout (fun x K => Qt.c k x.1 K) := by
 intro ρ x K; kernel_rfl
theorem Qt.sem_ok (k : Nat) : QI Tryz.prog 31 (Qt.sem k) :=
 QG (C := Qt.ctx k) (Qt.gok k) Tryz.mix (c := Func.code Tryz.f31) (ann := Qt.ann k) (tin := Qt.tin) (tout := Qt.tout) (fun x K => Qt.c k x.1 K) Tryz.func31 (by kernel_rfl) (by kernel_rfl) (Q1.seq Q1.nil (Q1.seq Q1.nil (Q1.seq (Q1.seq Q1.nil (Q1.block (Q1.loop (by kernel_rfl) (Qt.l0.ok k)))) Q1.nil))) (Qt.body k)
abbrev Qx.l0.σ : Type := ByteArray × Int × (List Int) × (List Int) × Unit
abbrev Qx.l0.τ : Type := ((List Int) × (List Int) × Unit)
def Qx.l0.r (k : Nat) {ρ : Type} (x : Qx.l0.σ) (kn : Qx.l0.σ → Option ρ) (ke : Qx.l0.τ → Option ρ) : Option ρ :=
 bif (decide (x.2.1 < (32 : Int))) then (bif (decide (((0 : Int) ≤ x.2.1) ∧ (x.2.1 < (((ByteArray.size x.1) : Nat) : Int)))) then (let v1 : Int := (Q1v x.1 (Int.toNat x.2.1))
 bif (decide (((0 : Int) ≤ x.2.1) ∧ (x.2.1 < ((32 : Nat) : Int)))) then (let v2 : Int := (IntKind.wrap IntKind.i64 (x.2.1 + (1 : Int)))
 kn (x.1, (v2, (x.2.2.1, ((List.set x.2.2.2.1 (Int.toNat x.2.1) v1), ()))))) else (none)) else (none)) else (ke (x.2.2.1, (x.2.2.2.1, ())))
def Qx.l0 (k : Nat) : Nat → Qx.l0.σ → Option Qx.l0.τ := Q15 (Qx.l0.r k)
def Qx.l0.T : StT := ⟨.dat .str :: us 1 ++ .ptr 0 [] :: .ptr 1 [] :: .dat (.int .i64) :: us 11, [.dat Qi9, .dat Qi9]⟩
def Qx.l0.os : List Out := [⟨(.exit 0), [.mask [2, 3], .auto 0], ⟨us 2 ++ .ptr 0 [] :: .ptr 1 [] :: us 12, [.dat Qi9, .dat Qi9]⟩⟩]
def Qx.c (k : Nat) {ρ : Type} (s : ByteArray) (K : (List Int) × Unit → Option ρ) : Option ρ :=
 let v0 : (List Int) := (List.replicate 32 (0 : Int))
 (Qx.l0 k k (s, ((0 : Int), ((List.replicate 32 (0 : Int)), (v0, ()))))).bind fun t3 => let v4 : (List Int) := t3.2.1
 K (v4, ())
def Qx (k : Nat) (s : ByteArray) : Option ((List Int) × Unit) := Qx.c k s some
def Qx.tin : List Ty := [.str]
def Qx.tout : List Ty := [Qi9]
def Qx.sem (k : Nat) : QT := Q00 Qx.tin Qx.tout fun x => Qx k x.1
noncomputable def Qx.ctx (k : Nat) : Ctx := ⟨Tryz.prog, gam []⟩
theorem Qx.gok (k : Nat) : ∀ f, QI Tryz.prog f ((Qx.ctx k).Γ f) := Q01
theorem Qx.l0.round (k : Nat) : Q14 (Qx.ctx k) (QP (Func.code Tryz.f32) [1, 1, 0, 1, 0, 0]) (.nil) Qx.l0.T [.mask [0, 2, 3, 4], .auto 0] Qx.l0.os (Qx.l0.r k) := by
 intro ρ x kn ke; kernel_rfl
theorem Qx.l0.ok (k : Nat) : StOK 0 Tryz.prog (.loop (QP (Func.code Tryz.f32) [1, 1, 0, 1, 0, 0])) (Qp Qx.l0.T Qx.l0.os (Qx.l0 k k)) :=
 Q16 (C := Qx.ctx k) (Qx.gok k) Tryz.mix Q1.nil (by kernel_rfl) (by kernel_rfl) (by kernel_rfl) (Qx.l0.round k) k
def Qx.ann (k : Nat) : Ann := .node [] none (.nil) (.node [] none (.nil) (.node [] none (.node [] none (.nil) (.node [] none (.node [.mask [0, 2, 3, 4], .auto 0] (some (Qp Qx.l0.T Qx.l0.os (Qx.l0 k k))) .nil .nil) (.nil))) (.nil)))
theorem Qx.body (k : Nat) : Q0W (Qx.ctx k) Tryz.f32 (Func.code Tryz.f32) (Qx.ann k) Qx.tin Qx.tout (fun x K => Qx.c k x.1 K) := by
 intro ρ x K; kernel_rfl
theorem Qx.sem_ok (k : Nat) : QI Tryz.prog 32 (Qx.sem k) :=
 QG (C := Qx.ctx k) (Qx.gok k) Tryz.mix (c := Func.code Tryz.f32) (ann := Qx.ann k) (tin := Qx.tin) (tout := Qx.tout) (fun x K => Qx.c k x.1 K) Tryz.func32 (by kernel_rfl) (by kernel_rfl) (Q1.seq Q1.nil (Q1.seq Q1.nil (Q1.seq (Q1.seq Q1.nil (Q1.block (Q1.loop (by kernel_rfl) (Qx.l0.ok k)))) Q1.nil))) (Qx.body k)
abbrev Qi.p0.σ : Type := ByteArray × Int × Qi5 × Unit
abbrev Qi.p0.τ : Type := Qi3 ⊕ Qi2 
def Qi.p0.r (k : Nat) {ρ : Type} (x : Qi.p0.σ) (K : Qi.p0.τ → Option ρ) : Option ρ :=
 bif (decide (x.2.1 < (0 : Int))) then (K (.inl ((1 : Int), (((0 : Int), ((List.replicate 32 (0 : Int)), ((List.replicate 32 (0 : Int)), ((0 : Int), ((0 : Int), ((0 : Int), ())))))), ())))) else (let v0 : Int := (((ByteArray.size x.1) : Nat) : Int)
 bif (decide (x.2.1 > v0)) then (K (.inl ((1 : Int), (((0 : Int), ((List.replicate 32 (0 : Int)), ((List.replicate 32 (0 : Int)), ((0 : Int), ((0 : Int), ((0 : Int), ())))))), ())))) else (K (.inr (x.1, (x.2.1, ((x.2.2.1.1, (x.2.2.1.2.1, (x.2.2.1.2.2.1, (x.2.2.1.2.2.2.1, (x.2.2.1.2.2.2.2.1, (x.2.2.1.2.2.2.2.2.1, ())))))), ()))))))
def Qi.p0 (k : Nat) (x : Qi.p0.σ) : Option Qi.p0.τ := Qi.p0.r k x some
def Qi.p0.T : StT := ⟨.dat .str :: .dat (.int .i64) :: us 2 ++ .ptr 0 [] :: us 42, [.dat QhZ]⟩
def Qi.p0.os : List Out := [⟨.ret, [.mask [4, 5], .auto 0], ⟨us 4 ++ .ptr 0 [] :: .dat (.int .i64) :: us 41, [.dat QhZ]⟩⟩, ⟨.normal, [.mask [0, 1, 4], .auto 0], ⟨.dat .str :: .dat (.int .i64) :: us 2 ++ .ptr 0 [] :: us 42, [.dat QhZ]⟩⟩]
def Qi.c (k : Nat) {ρ : Type} (s : ByteArray) (at_1 : Int) (K : Qi5 × Int × Unit → Option ρ) : Option ρ :=
 (Qi.p0 k (s, (at_1, (((0 : Int), ((List.replicate 32 (0 : Int)), ((List.replicate 32 (0 : Int)), ((0 : Int), ((0 : Int), ((0 : Int), ())))))), ())))).bind fun t1 => (match t1 with | .inl t2 => (K ((t2.2.1.1, (t2.2.1.2.1, (t2.2.1.2.2.1, (t2.2.1.2.2.2.1, (t2.2.1.2.2.2.2.1, (t2.2.1.2.2.2.2.2.1, ())))))), (t2.1, ()))) | .inr (t3) => (let v4 : Int := (((ByteArray.size t3.1) : Nat) : Int)
 let v5 : Int := (IntKind.wrap IntKind.i64 (v4 - t3.2.1))
 bif (decide (v5 < (80 : Int))) then (K (((0 : Int), ((List.replicate 32 (0 : Int)), ((List.replicate 32 (0 : Int)), ((0 : Int), ((0 : Int), ((0 : Int), ())))))), ((4 : Int), ()))) else (bif (decide (((0 : Int) ≤ t3.2.1) ∧ ((t3.2.1 ≤ (((ByteArray.size t3.1) : Nat) : Int)) ∧ ((((ByteArray.size t3.1) : Nat) : Int) ≤ (((ByteArray.size t3.1) : Nat) : Int))))) then (let v6 : ByteArray := (ByteArray.extract t3.1 (Int.toNat t3.2.1) (Int.toNat (((ByteArray.size t3.1) : Nat) : Int)))
 bif (decide (((0 : Int) ≤ (0 : Int)) ∧ (((0 : Int) ≤ (4 : Int)) ∧ ((4 : Int) ≤ (((ByteArray.size v6) : Nat) : Int))))) then ((Qt k (ByteArray.extract v6 0 4)).bind fun t7 => let v8 : Int := (IntKind.wrap IntKind.u32 t7.1)
 bif (decide (((0 : Int) ≤ (4 : Int)) ∧ (((4 : Int) ≤ (36 : Int)) ∧ ((36 : Int) ≤ (((ByteArray.size v6) : Nat) : Int))))) then ((Qx k (ByteArray.extract v6 4 36)).bind fun t9 => bif (decide (((0 : Int) ≤ (36 : Int)) ∧ (((36 : Int) ≤ (68 : Int)) ∧ ((68 : Int) ≤ (((ByteArray.size v6) : Nat) : Int))))) then ((Qx k (ByteArray.extract v6 36 68)).bind fun t10 => bif (decide (((0 : Int) ≤ (68 : Int)) ∧ (((68 : Int) ≤ (72 : Int)) ∧ ((72 : Int) ≤ (((ByteArray.size v6) : Nat) : Int))))) then ((Qt k (ByteArray.extract v6 68 72)).bind fun t11 => let v12 : Int := (IntKind.wrap IntKind.u32 t11.1)
 bif (decide (((0 : Int) ≤ (72 : Int)) ∧ (((72 : Int) ≤ (76 : Int)) ∧ ((76 : Int) ≤ (((ByteArray.size v6) : Nat) : Int))))) then ((Qt k (ByteArray.extract v6 72 76)).bind fun t13 => let v14 : Int := (IntKind.wrap IntKind.u32 t13.1)
 bif (decide (((0 : Int) ≤ (76 : Int)) ∧ (((76 : Int) ≤ (80 : Int)) ∧ ((80 : Int) ≤ (((ByteArray.size v6) : Nat) : Int))))) then ((Qt k (ByteArray.extract v6 76 80)).bind fun t15 => let v16 : Int := (IntKind.wrap IntKind.u32 t15.1)
 K ((v8, (t9.1, (t10.1, (v12, (v14, (v16, ())))))), ((0 : Int), ()))) else (none)) else (none)) else (none)) else (none)) else (none)) else (none)) else (none))))
def Qi (k : Nat) (s : ByteArray) (at_1 : Int) : Option Qi4 := Qi.c k s at_1 some
def Qi.tin : List Ty := [.str, (.int .i64)]
def Qi.tout : List Ty := [QhZ, (.int .i64)]
def Qi.sem (k : Nat) : QT := Q00 Qi.tin Qi.tout fun x => Qi k x.1 x.2.1
noncomputable def Qi.ctx (k : Nat) : Ctx := ⟨Tryz.prog, gam [(31, (Qt.sem k)), (32, (Qx.sem k))]⟩
theorem Qi.gok (k : Nat) : ∀ f, QI Tryz.prog f ((Qi.ctx k).Γ f) := (Ql (Qt.sem_ok k) (Ql (Qx.sem_ok k) Q01))
theorem Qi.p0.is (k : Nat) : Q22 (Qi.ctx k) (QP (Func.code Tryz.f7) [1, 0]) (.nil) Qi.p0.T Qi.p0.os (Qi.p0.r k) := by
 intro ρ x K; kernel_rfl
theorem Qi.p0.ok (k : Nat) : StOK 0 Tryz.prog (QP (Func.code Tryz.f7) [1, 0]) (Qp Qi.p0.T Qi.p0.os (Qi.p0 k)) :=
 Q1X (C := Qi.ctx k) (T := Qi.p0.T) (os := Qi.p0.os) (Qi.gok k) Tryz.mix (fun x K => Qi.p0.r k x K) Q1.nil (by kernel_rfl) (by kernel_rfl) (Qi.p0.is k)
def Qi.ann (k : Nat) : Ann := .node [] none (.nil) (.node [] none (.node [.mask [0, 1, 4], .auto 0] (some (Qp Qi.p0.T Qi.p0.os (Qi.p0 k))) .nil .nil) (.nil))
theorem Qi.body (k : Nat) : Q0W (Qi.ctx k) Tryz.f7 (Func.code Tryz.f7) (Qi.ann k) Qi.tin Qi.tout (fun x K => Qi.c k x.1 x.2.1 K) := by
 intro ρ x K; kernel_rfl
theorem Qi.sem_ok (k : Nat) : QI Tryz.prog 7 (Qi.sem k) :=
 QG (C := Qi.ctx k) (Qi.gok k) Tryz.mix (c := Func.code Tryz.f7) (ann := Qi.ann k) (tin := Qi.tin) (tout := Qi.tout) (fun x K => Qi.c k x.1 x.2.1 K) Tryz.func7 (by kernel_rfl) (by kernel_rfl) (Q1.seq Q1.nil (Q1.seq (Q1.loop (by kernel_rfl) (Qi.p0.ok k)) Q1.nil)) (Qi.body k)
def Q0j.c (k : Nat) {ρ : Type} (h : Qi5) (K : Qi5 × Unit → Option ρ) : Option ρ :=
 let v0 : Int := h.1
 let v1 : (List Int) := h.2.1
 let v2 : (List Int) := h.2.2.1
 let v3 : Int := h.2.2.2.1
 let v4 : Int := h.2.2.2.2.1
 let v5 : Int := h.2.2.2.2.2.1
 K ((v0, (v1, (v2, (v3, (v4, (v5, ())))))), ())
def Q0j (k : Nat) (h : Qi5) : Option (Qi5 × Unit) := Q0j.c k h some
def Q0j.tin : List Ty := [QhZ]
def Q0j.tout : List Ty := [QhZ]
def Q0j.sem (k : Nat) : QT := Q00 Q0j.tin Q0j.tout fun x => Q0j k x.1
noncomputable def Q0j.ctx (k : Nat) : Ctx := ⟨Tryz.prog, gam []⟩
theorem Q0j.gok (k : Nat) : ∀ f, QI Tryz.prog f ((Q0j.ctx k).Γ f) := Q01
def Q0j.ann (k : Nat) : Ann := .nil
theorem Q0j.body (k : Nat) : Q0W (Q0j.ctx k) Tryz.f11 (Func.code Tryz.f11) (Q0j.ann k) Q0j.tin Q0j.tout (fun x K => Q0j.c k x.1 K) := by
 intro ρ x K; kernel_rfl
theorem Q0j.sem_ok (k : Nat) : QI Tryz.prog 11 (Q0j.sem k) :=
 QG (C := Q0j.ctx k) (Q0j.gok k) Tryz.mix (c := Func.code Tryz.f11) (ann := Q0j.ann k) (tin := Q0j.tin) (tout := Q0j.tout) (fun x K => Q0j.c k x.1 K) Tryz.func11 (by kernel_rfl) (by kernel_rfl) Q1.nil (Q0j.body k)
abbrev Qo.l0.σ : Type := Int × Int × ByteArray × Int × Unit
abbrev Qo.l0.τ : Type := (ByteArray × Unit)
def Qo.l0.r (k : Nat) {ρ : Type} (x : Qo.l0.σ) (kn : Qo.l0.σ → Option ρ) (ke : Qo.l0.τ → Option ρ) : Option ρ :=
 bif (decide (x.2.2.2.1 < x.2.1)) then (let v0 : Int := (Int.tmod x.1 (256 : Int))
 let v1 : ByteArray := (bytesOf (List.set (List.replicate 1 (0 : Int)) 0 (IntKind.wrap IntKind.u8 v0)))
 bif (Nat.ble ((ByteArray.size x.2.2.1) + (ByteArray.size v1)) 9223372036854775807) then (let v2 : ByteArray := (x.2.2.1 ++ v1)
 let v3 : Int := (IntKind.wrap IntKind.u64 (Int.tdiv x.1 (256 : Int)))
 let v4 : Int := (IntKind.wrap IntKind.i64 (x.2.2.2.1 + (1 : Int)))
 kn (v3, (x.2.1, (v2, (v4, ()))))) else (none)) else (ke (x.2.2.1, ()))
def Qo.l0 (k : Nat) : Nat → Qo.l0.σ → Option Qo.l0.τ := Q15 (Qo.l0.r k)
def Qo.l0.T : StT := ⟨.dat (.int .u64) :: .dat (.int .i64) :: us 3 ++ .dat .str :: .dat (.int .i64) :: us 15, []⟩
def Qo.l0.os : List Out := [⟨(.exit 0), [.mask [5], .auto 0], ⟨us 5 ++ .dat .str :: us 16, []⟩⟩]
def Qo.c (k : Nat) {ρ : Type} (n : Int) (bytes : Int) (K : ByteArray × Unit → Option ρ) : Option ρ :=
 (Qo.l0 k k (n, (bytes, ((⟨(List.toArray [])⟩ : ByteArray), ((0 : Int), ()))))).bind fun t5 => K (t5.1, ())
def Qo (k : Nat) (n : Int) (bytes : Int) : Option (ByteArray × Unit) := Qo.c k n bytes some
def Qo.tin : List Ty := [(.int .u64), (.int .i64)]
def Qo.tout : List Ty := [.str]
def Qo.sem (k : Nat) : QT := Q00 Qo.tin Qo.tout fun x => Qo k x.1 x.2.1
noncomputable def Qo.ctx (k : Nat) : Ctx := ⟨Tryz.prog, gam []⟩
theorem Qo.gok (k : Nat) : ∀ f, QI Tryz.prog f ((Qo.ctx k).Γ f) := Q01
theorem Qo.l0.round (k : Nat) : Q14 (Qo.ctx k) (QP (Func.code Tryz.f36) [1, 1, 0, 1, 0, 0]) (.nil) Qo.l0.T [.mask [0, 1, 5, 6], .auto 0] Qo.l0.os (Qo.l0.r k) := by
 intro ρ x kn ke; kernel_rfl
theorem Qo.l0.ok (k : Nat) : StOK 0 Tryz.prog (.loop (QP (Func.code Tryz.f36) [1, 1, 0, 1, 0, 0])) (Qp Qo.l0.T Qo.l0.os (Qo.l0 k k)) :=
 Q16 (C := Qo.ctx k) (Qo.gok k) Tryz.mix Q1.nil (by kernel_rfl) (by kernel_rfl) (by kernel_rfl) (Qo.l0.round k) k
def Qo.ann (k : Nat) : Ann := .node [] none (.nil) (.node [] none (.nil) (.node [] none (.node [] none (.nil) (.node [] none (.node [] (some (Qp Qo.l0.T Qo.l0.os (Qo.l0 k k))) .nil .nil) (.nil))) (.nil)))
theorem Qo.body (k : Nat) : Q0W (Qo.ctx k) Tryz.f36 (Func.code Tryz.f36) (Qo.ann k) Qo.tin Qo.tout (fun x K => Qo.c k x.1 x.2.1 K) := by
 intro ρ x K; kernel_rfl
theorem Qo.sem_ok (k : Nat) : QI Tryz.prog 36 (Qo.sem k) :=
 QG (C := Qo.ctx k) (Qo.gok k) Tryz.mix (c := Func.code Tryz.f36) (ann := Qo.ann k) (tin := Qo.tin) (tout := Qo.tout) (fun x K => Qo.c k x.1 x.2.1 K) Tryz.func36 (by kernel_rfl) (by kernel_rfl) (Q1.seq Q1.nil (Q1.seq Q1.nil (Q1.seq (Q1.seq Q1.nil (Q1.block (Q1.loop (by kernel_rfl) (Qo.l0.ok k)))) Q1.nil))) (Qo.body k)
def Q08.c (k : Nat) {ρ : Type} (h : Qi5) (K : ByteArray × Unit → Option ρ) : Option ρ :=
 let v0 : Int := h.1
 (Qo k (IntKind.wrap IntKind.u64 v0) (4 : Int)).bind fun t1 => let v2 : ByteArray := (bytesOf (List.take 32 (List.drop 0 h.2.1)))
 bif (Nat.ble ((ByteArray.size t1.1) + (ByteArray.size v2)) 9223372036854775807) then (let v3 : ByteArray := (t1.1 ++ v2)
 let v4 : ByteArray := (bytesOf (List.take 32 (List.drop 0 h.2.2.1)))
 bif (Nat.ble ((ByteArray.size v3) + (ByteArray.size v4)) 9223372036854775807) then (let v5 : ByteArray := (v3 ++ v4)
 let v6 : Int := h.2.2.2.1
 (Qo k (IntKind.wrap IntKind.u64 v6) (4 : Int)).bind fun t7 => bif (Nat.ble ((ByteArray.size v5) + (ByteArray.size t7.1)) 9223372036854775807) then (let v8 : ByteArray := (v5 ++ t7.1)
 let v9 : Int := h.2.2.2.2.1
 (Qo k (IntKind.wrap IntKind.u64 v9) (4 : Int)).bind fun t10 => bif (Nat.ble ((ByteArray.size v8) + (ByteArray.size t10.1)) 9223372036854775807) then (let v11 : ByteArray := (v8 ++ t10.1)
 let v12 : Int := h.2.2.2.2.2.1
 (Qo k (IntKind.wrap IntKind.u64 v12) (4 : Int)).bind fun t13 => bif (Nat.ble ((ByteArray.size v11) + (ByteArray.size t13.1)) 9223372036854775807) then (let v14 : ByteArray := (v11 ++ t13.1)
 K (v14, ())) else (none)) else (none)) else (none)) else (none)) else (none)
def Q08 (k : Nat) (h : Qi5) : Option (ByteArray × Unit) := Q08.c k h some
def Q08.tin : List Ty := [QhZ]
def Q08.tout : List Ty := [.str]
def Q08.sem (k : Nat) : QT := Q00 Q08.tin Q08.tout fun x => Q08 k x.1
noncomputable def Q08.ctx (k : Nat) : Ctx := ⟨Tryz.prog, gam [(36, (Qo.sem k))]⟩
theorem Q08.gok (k : Nat) : ∀ f, QI Tryz.prog f ((Q08.ctx k).Γ f) := (Ql (Qo.sem_ok k) Q01)
def Q08.ann (k : Nat) : Ann := .nil
theorem Q08.body (k : Nat) : Q0W (Q08.ctx k) Tryz.f10 (Func.code Tryz.f10) (Q08.ann k) Q08.tin Q08.tout (fun x K => Q08.c k x.1 K) := by
 intro ρ x K; kernel_rfl
theorem Q08.sem_ok (k : Nat) : QI Tryz.prog 10 (Q08.sem k) :=
 QG (C := Q08.ctx k) (Q08.gok k) Tryz.mix (c := Func.code Tryz.f10) (ann := Q08.ann k) (tin := Q08.tin) (tout := Q08.tout) (fun x K => Q08.c k x.1 K) Tryz.func10 (by kernel_rfl) (by kernel_rfl) Q1.nil (Q08.body k)
def Q0I.c (k : Nat) {ρ : Type} (h : Qi5) (K : (List Int) × Unit → Option ρ) : Option ρ :=
 (Q08 k (h.1, (h.2.1, (h.2.2.1, (h.2.2.2.1, (h.2.2.2.2.1, (h.2.2.2.2.2.1, ()))))))).bind fun t0 => (Q0r k t0.1).bind fun t1 => K (t1.1, ())
def Q0I (k : Nat) (h : Qi5) : Option ((List Int) × Unit) := Q0I.c k h some
def Q0I.tin : List Ty := [QhZ]
def Q0I.tout : List Ty := [Qi9]
def Q0I.sem (k : Nat) : QT := Q00 Q0I.tin Q0I.tout fun x => Q0I k x.1
noncomputable def Q0I.ctx (k : Nat) : Ctx := ⟨Tryz.prog, gam [(10, (Q08.sem k)), (37, (Q0r.sem k))]⟩
theorem Q0I.gok (k : Nat) : ∀ f, QI Tryz.prog f ((Q0I.ctx k).Γ f) := (Ql (Q08.sem_ok k) (Ql (Q0r.sem_ok k) Q01))
def Q0I.ann (k : Nat) : Ann := .nil
theorem Q0I.body (k : Nat) : Q0W (Q0I.ctx k) Tryz.f12 (Func.code Tryz.f12) (Q0I.ann k) Q0I.tin Q0I.tout (fun x K => Q0I.c k x.1 K) := by
 intro ρ x K; kernel_rfl
theorem Q0I.sem_ok (k : Nat) : QI Tryz.prog 12 (Q0I.sem k) :=
 QG (C := Q0I.ctx k) (Q0I.gok k) Tryz.mix (c := Func.code Tryz.f12) (ann := Q0I.ann k) (tin := Q0I.tin) (tout := Q0I.tout) (fun x K => Q0I.c k x.1 K) Tryz.func12 (by kernel_rfl) (by kernel_rfl) Q1.nil (Q0I.body k)
def Q0F.c (k : Nat) {ρ : Type} (h : Qi5) (K : Bool × Unit → Option ρ) : Option ρ :=
 (Q0I k (h.1, (h.2.1, (h.2.2.1, (h.2.2.2.1, (h.2.2.2.2.1, (h.2.2.2.2.2.1, ()))))))).bind fun t0 => let v1 : Int := h.2.2.2.2.1
 (Q0G k t0.1 v1).bind fun t2 => K (t2.1, ())
def Q0F (k : Nat) (h : Qi5) : Option (Bool × Unit) := Q0F.c k h some
def Q0F.tin : List Ty := [QhZ]
def Q0F.tout : List Ty := [.bool]
def Q0F.sem (k : Nat) : QT := Q00 Q0F.tin Q0F.tout fun x => Q0F k x.1
noncomputable def Q0F.ctx (k : Nat) : Ctx := ⟨Tryz.prog, gam [(12, (Q0I.sem k)), (39, (Q0G.sem k))]⟩
theorem Q0F.gok (k : Nat) : ∀ f, QI Tryz.prog f ((Q0F.ctx k).Γ f) := (Ql (Q0I.sem_ok k) (Ql (Q0G.sem_ok k) Q01))
def Q0F.ann (k : Nat) : Ann := .nil
theorem Q0F.body (k : Nat) : Q0W (Q0F.ctx k) Tryz.f14 (Func.code Tryz.f14) (Q0F.ann k) Q0F.tin Q0F.tout (fun x K => Q0F.c k x.1 K) := by
 intro ρ x K; kernel_rfl
theorem Q0F.sem_ok (k : Nat) : QI Tryz.prog 14 (Q0F.sem k) :=
 QG (C := Q0F.ctx k) (Q0F.gok k) Tryz.mix (c := Func.code Tryz.f14) (ann := Q0F.ann k) (tin := Q0F.tin) (tout := Q0F.tout) (fun x K => Q0F.c k x.1 K) Tryz.func14 (by kernel_rfl) (by kernel_rfl) Q1.nil (Q0F.body k)
def Q0i.c (k : Nat) {ρ : Type} (h : Qi5) (s : ByteArray) (at_2 : Int) (K : Bool × Unit → Option ρ) : Option ρ :=
 (Q1c k (h.1, (h.2.1, (h.2.2.1, (h.2.2.2.1, (h.2.2.2.2.1, (h.2.2.2.2.2.1, ()))))))).bind fun t0 => (QJ k s at_2).bind fun t1 => let v2 : Int := t1.2.1
 (Qi k s at_2).bind fun t3 => let v4 : Int := t3.2.1
 bif (Nat.ble (1 + (ByteArray.size t0.1)) 9223372036854775807) then (let v5 : ByteArray := ((⟨(List.toArray [120])⟩ : ByteArray) ++ t0.1)
 (QJ k v5 (1 : Int)).bind fun t6 => let v7 : Int := t6.2.1
 (Q1A k (h.1, (h.2.1, (h.2.2.1, (h.2.2.2.1, (h.2.2.2.2.1, (h.2.2.2.2.2.1, ()))))))).bind fun t8 => (Q0g k ).bind fun t9 => bif t9.1 then ((Q0j k (h.1, (h.2.1, (h.2.2.1, (h.2.2.2.1, (h.2.2.2.2.1, (h.2.2.2.2.2.1, ()))))))).bind fun t10 => (Q08 k (t10.1.1, (t10.1.2.1, (t10.1.2.2.1, (t10.1.2.2.2.1, (t10.1.2.2.2.2.1, (t10.1.2.2.2.2.2.1, ()))))))).bind fun t11 => bif (Q2Y t0.1 t11.1) then ((Q0j k (t1.1.1, (t1.1.2.1, (t1.1.2.2.1, (t1.1.2.2.2.1, (t1.1.2.2.2.2.1, (t1.1.2.2.2.2.2.1, ()))))))).bind fun t12 => bif ((t12.1.1 == t3.1.1) && ((decide (t12.1.2.1 = t3.1.2.1)) && ((decide (t12.1.2.2.1 = t3.1.2.2.1)) && ((t12.1.2.2.2.1 == t3.1.2.2.2.1) && ((t12.1.2.2.2.2.1 == t3.1.2.2.2.2.1) && ((t12.1.2.2.2.2.2.1 == t3.1.2.2.2.2.2.1) && true)))))) then (bif (v2 == v4) then (bif ((t6.1.1 == h.1) && ((decide (t6.1.2.1 = h.2.1)) && ((decide (t6.1.2.2.1 = h.2.2.1)) && ((t6.1.2.2.2.1 == h.2.2.2.1) && ((t6.1.2.2.2.2.1 == h.2.2.2.2.1) && ((t6.1.2.2.2.2.2.1 == h.2.2.2.2.2.1) && true)))))) then (bif (v7 == (0 : Int)) then (let v13 : (List Int) := t8.1
 (Q0j k (h.1, (h.2.1, (h.2.2.1, (h.2.2.2.1, (h.2.2.2.2.1, (h.2.2.2.2.2.1, ()))))))).bind fun t14 => (Q0I k (t14.1.1, (t14.1.2.1, (t14.1.2.2.1, (t14.1.2.2.2.1, (t14.1.2.2.2.2.1, (t14.1.2.2.2.2.2.1, ()))))))).bind fun t15 => bif (decide (v13 = t15.1)) then ((Q1d k (h.1, (h.2.1, (h.2.2.1, (h.2.2.2.1, (h.2.2.2.2.1, (h.2.2.2.2.2.1, ()))))))).bind fun t16 => (Q0j k (h.1, (h.2.1, (h.2.2.1, (h.2.2.2.1, (h.2.2.2.2.1, (h.2.2.2.2.2.1, ()))))))).bind fun t17 => (Q0F k (t17.1.1, (t17.1.2.1, (t17.1.2.2.1, (t17.1.2.2.2.1, (t17.1.2.2.2.2.1, (t17.1.2.2.2.2.2.1, ()))))))).bind fun t18 => K ((t16.1 == t18.1), ())) else (K (false, ()))) else (K (false, ()))) else (K (false, ()))) else (K (false, ()))) else (K (false, ()))) else (K (false, ()))) else (K (false, ()))) else (none)
def Q0i (k : Nat) (h : Qi5) (s : ByteArray) (at_2 : Int) : Option (Bool × Unit) := Q0i.c k h s at_2 some
def Q0i.tin : List Ty := [QhZ, .str, (.int .i64)]
def Q0i.tout : List Ty := [.bool]
def Q0i.sem (k : Nat) : QT := Q00 Q0i.tin Q0i.tout fun x => Q0i k x.1 x.2.1 x.2.2.1
noncomputable def Q0i.ctx (k : Nat) : Ctx := ⟨Tryz.prog, gam [(5, (Q1c.sem k)), (6, (QJ.sem k)), (7, (Qi.sem k)), (8, (Q1A.sem k)), (9, (Q0g.sem k)), (11, (Q0j.sem k)), (10, (Q08.sem k)), (12, (Q0I.sem k)), (13, (Q1d.sem k)), (14, (Q0F.sem k))]⟩
theorem Q0i.gok (k : Nat) : ∀ f, QI Tryz.prog f ((Q0i.ctx k).Γ f) := (Ql (Q1c.sem_ok k) (Ql (QJ.sem_ok k) (Ql (Qi.sem_ok k) (Ql (Q1A.sem_ok k) (Ql (Q0g.sem_ok k) (Ql (Q0j.sem_ok k) (Ql (Q08.sem_ok k) (Ql (Q0I.sem_ok k) (Ql (Q1d.sem_ok k) (Ql (Q0F.sem_ok k) Q01))))))))))
def Q0i.ann (k : Nat) : Ann := .nil
theorem Q0i.body (k : Nat) : Q0W (Q0i.ctx k) Tryz.f3 (Func.code Tryz.f3) (Q0i.ann k) Q0i.tin Q0i.tout (fun x K => Q0i.c k x.1 x.2.1 x.2.2.1 K) := by
 intro ρ x K; kernel_rfl
theorem Q0i.sem_ok (k : Nat) : QI Tryz.prog 3 (Q0i.sem k) :=
 QG (C := Q0i.ctx k) (Q0i.gok k) Tryz.mix (c := Func.code Tryz.f3) (ann := Q0i.ann k) (tin := Q0i.tin) (tout := Q0i.tout) (fun x K => Q0i.c k x.1 x.2.1 x.2.2.1 K) Tryz.func3 (by kernel_rfl) (by kernel_rfl) Q1.nil (Q0i.body k)
end Go.Am
