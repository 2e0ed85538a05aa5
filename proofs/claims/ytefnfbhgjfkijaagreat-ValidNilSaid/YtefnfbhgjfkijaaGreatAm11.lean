/- A part of a proof: a machine of abstract values that tells what functions of the program compute, and the plain facts on them. -/
import Derived.Test.YtefnfbhgjfkijaaGreatAm10
import Derived.KernelRfl
set_option linter.unusedVariables false
set_option linter.unusedSimpArgs false
set_option linter.unnecessarySimpa false
set_option linter.unusedSectionVars false
namespace Go.Am
abbrev Qdc : Type := ((List Int) × (Int × Unit))
abbrev Qdb : Type := (List (Int × (ByteArray × Unit)))
abbrev Qda : Type := (ByteArray × (Int × (Int × Unit)))
abbrev Qd9 : Type := (List  Qdc )
abbrev Qd8 : Type := (Int ×  Qda  × Unit)
abbrev Qd7 : Ty := (.pair (.arr 32 (.int .u8)) (.pair (.int .u32) .unit))
abbrev Qd6 : Ty := (.pair .str (.pair (.int .i64) (.pair (.int .i64) .unit)))
abbrev Qd5 : Type := (List ( Qdc  × (ByteArray × (Int × Unit))))
abbrev Qd4 : Ty := (.sl (.pair  Qd7  (.pair .str (.pair (.int .u32) .unit))))
abbrev Qd3 : Type := (Int × ( Qd5  × ( Qdb  × (Int × Unit))))
abbrev Qd2 : Type := (List  Qd3 )
abbrev Qd1 : Type := ( Qd3  × Unit)
abbrev Qd0 : Ty := (.pair (.int .u32) (.pair  Qd4  (.pair (.sl (.pair (.int .u64) (.pair .str .unit))) (.pair (.int .u32) .unit))))
abbrev QcZ : Type := ((Int × ((List Int) × ((List Int) × (Int × (Int × (Int × Unit)))))) × ( Qd2  × Unit))
abbrev QcY : Ty := (.sl  Qd0 )
abbrev QcX : Ty := (.pair (.pair (.int .u32) (.pair (.arr 32 (.int .u8)) (.pair (.arr 32 (.int .u8)) (.pair (.int .u32) (.pair (.int .u32) (.pair (.int .u32) .unit)))))) (.pair  QcY  .unit))
end Go.Am
namespace Go.Am
open Go Go.Proofs
set_option maxRecDepth 100000
abbrev Q0m.l0.σ : Type := Int × Int × (List Int) × Qd9 × Unit
abbrev Q0m.l0.τ : Type := (Qd9 × Unit)
def Q0m.l0.r (k : Nat) {ρ : Type} (x : Q0m.l0.σ) (kn : Q0m.l0.σ → Option ρ) (ke : Q0m.l0.τ → Option ρ) : Option ρ :=
 bif (decide (x.2.1 < x.1)) then (let v2 : (List Int) := x.2.2.1
 let v3 : Int := (IntKind.wrap IntKind.u32 x.2.1)
 bif (Nat.ble (((List.length x.2.2.2.1) + (List.length (List.set (List.replicate 1 ((List.replicate 32 (0 : Int)), ((0 : Int), ()))) 0 (v2, (v3, ()))))) * 36) 140737488355328) then (let v4 : Int := (IntKind.wrap IntKind.i64 (x.2.1 + (1 : Int)))
 kn (x.1, (v4, (x.2.2.1, ((x.2.2.2.1 ++ (List.set (List.replicate 1 ((List.replicate 32 (0 : Int)), ((0 : Int), ()))) 0 (v2, (v3, ())))), ()))))) else (none)) else (ke (x.2.2.2.1, ()))
def Q0m.l0 (k : Nat) : Nat → Q0m.l0.σ → Option Q0m.l0.τ := Q12 (Q0m.l0.r k)
def Q0m.l0.T : StT := ⟨us 2 ++ .ptr 0 [] :: us 2 ++ .vsl 1 :: us 3 ++ .dat (.int .i64) :: .dat (.int .i64) :: us 11, [.dat (.arr 32 (.int .u8)), .vec Qd7]⟩
def Q0m.l0.os : List Out := [⟨(.exit 0), [.mask [5], .auto 0], ⟨us 5 ++ .vsl 0 :: us 16, [.vec Qd7]⟩⟩]
def Q0m.c (k : Nat) {ρ : Type} (id : (List Int)) (t : Qd3) (K : Qd9 × Unit → Option ρ) : Option ρ :=
 let v0 : Qdb := t.2.2.1
 let v1 : Int := (((List.length v0) : Nat) : Int)
 (Q0m.l0 k k (v1, ((0 : Int), (id, ([], ()))))).bind fun t5 => K (t5.1, ())
def Q0m (k : Nat) (id : (List Int)) (t : Qd3) : Option (Qd9 × Unit) := Q0m.c k id t some
def Q0m.tin : List Ty := [(.arr 32 (.int .u8)), Qd0]
def Q0m.tout : List Ty := [(.sl Qd7)]
def Q0m.sem (k : Nat) : Qp := Qt Q0m.tin Q0m.tout fun x => Q0m k x.1 x.2.1
noncomputable def Q0m.ctx (k : Nat) : Ctx := ⟨Tryz.prog, gam []⟩
theorem Q0m.gok (k : Nat) : ∀ f, Qh Tryz.prog f ((Q0m.ctx k).Γ f) := QO
theorem Q0m.l0.round (k : Nat) : Q0Q (Q0m.ctx k) (Q08 (Func.code Tryz.f49) [1, 1, 0, 1, 0, 0]) (.nil) Q0m.l0.T [.mask [2, 5, 9, 10], .auto 0] Q0m.l0.os (Q0m.l0.r k) := by
 intro ρ x kn ke; kernel_rfl
theorem Q0m.l0.ok (k : Nat) : StOK 0 Tryz.prog (.loop (Q08 (Func.code Tryz.f49) [1, 1, 0, 1, 0, 0])) (Qr Q0m.l0.T Q0m.l0.os (Q0m.l0 k k)) :=
 Q0R (C := Q0m.ctx k) (Q0m.gok k) Tryz.mix Q0.nil (by kernel_rfl) (by kernel_rfl) (by kernel_rfl) (Q0m.l0.round k) k
def Q0m.ann (k : Nat) : Ann := .node [] none (.nil) (.node [] none (.nil) (.node [] none (.node [] none (.nil) (.node [] none (.node [.mask [2, 5, 9, 10], .auto 0, .own (.slot 5) Qd7] (some (Qr Q0m.l0.T Q0m.l0.os (Q0m.l0 k k))) .nil .nil) (.nil))) (.nil)))
theorem Q0m.body (k : Nat) : Q0I (Q0m.ctx k) Tryz.f49 (Func.code Tryz.f49) (Q0m.ann k) Q0m.tin Q0m.tout (fun x K => Q0m.c k x.1 x.2.1 K) := by
 intro ρ x K; kernel_rfl
theorem Q0m.sem_ok (k : Nat) : Qh Tryz.prog 49 (Q0m.sem k) :=
 Qv (C := Q0m.ctx k) (Q0m.gok k) Tryz.mix (c := Func.code Tryz.f49) (ann := Q0m.ann k) (tin := Q0m.tin) (tout := Q0m.tout) (fun x K => Q0m.c k x.1 x.2.1 K) Tryz.func49 (by kernel_rfl) (by kernel_rfl) (Q0.seq Q0.nil (Q0.seq Q0.nil (Q0.seq (Q0.seq Q0.nil (Q0.block (Q0.loop (by kernel_rfl) (Q0m.l0.ok k)))) Q0.nil))) (Q0m.body k)
end Go.Am
namespace Go.Am
open Go Go.Proofs
set_option maxRecDepth 100000
abbrev Qo.p0.σ : Type := Int × Int × Qd3 × Unit
abbrev Qo.p0.τ : Type := (Int × Qd3 × Unit)
def Qo.p0.r (k : Nat) {ρ : Type} (x : Qo.p0.σ) (K : Qo.p0.τ → Option ρ) : Option ρ :=
 let v1 : Int := x.2.2.1.2.2.2.1
 bif (decide (v1 ≥ (500000000 : Int))) then (let v2 : Int := (IntKind.wrap IntKind.u64 x.1)
 K (v2, ((x.2.2.1.1, (x.2.2.1.2.1, (x.2.2.1.2.2.1, (x.2.2.1.2.2.2.1, ())))), ()))) else (K (x.2.1, ((x.2.2.1.1, (x.2.2.1.2.1, (x.2.2.1.2.2.1, (x.2.2.1.2.2.2.1, ())))), ())))
def Qo.p0 (k : Nat) (x : Qo.p0.σ) : Option Qo.p0.τ := Qo.p0.r k x some
def Qo.p0.T : StT := ⟨us 2 ++ .dat (.int .u32) :: .ptr 0 [] :: us 3 ++ .dat (.int .u64) :: us 31, [.dat Qd0]⟩
def Qo.p0.os : List Out := [⟨.normal, [.mask [3, 7], .auto 0], ⟨us 3 ++ .ptr 0 [] :: us 3 ++ .dat (.int .u64) :: us 31, [.dat Qd0]⟩⟩]
abbrev Qo.p1.σ : Type := Int × Qd3 × Unit
abbrev Qo.p1.τ : Type := (Bool × Unit) ⊕ Qd1 
def Qo.p1.r (k : Nat) {ρ : Type} (x : Qo.p1.σ) (K : Qo.p1.τ → Option ρ) : Option ρ :=
 let v4 : Int := x.2.1.2.2.2.1
 bif (v4 == (0 : Int)) then (K (.inl (true, ()))) else (let v5 : Int := x.2.1.2.2.2.1
 bif (decide ((IntKind.wrap IntKind.u64 v5) < x.1)) then (K (.inl (true, ()))) else (K (.inr ((x.2.1.1, (x.2.1.2.1, (x.2.1.2.2.1, (x.2.1.2.2.2.1, ())))), ()))))
def Qo.p1 (k : Nat) (x : Qo.p1.σ) : Option Qo.p1.τ := Qo.p1.r k x some
def Qo.p1.T : StT := ⟨us 3 ++ .ptr 0 [] :: us 3 ++ .dat (.int .u64) :: us 31, [.dat Qd0]⟩
def Qo.p1.os : List Out := [⟨.ret, [.mask [6], .auto 0], ⟨us 6 ++ .dat .bool :: us 32, []⟩⟩, ⟨.normal, [.mask [3], .auto 0], ⟨us 3 ++ .ptr 0 [] :: us 35, [.dat Qd0]⟩⟩]
abbrev Qo.l2.σ : Type := Qd5 × Int × Int × Unit
abbrev Qo.l2.τ : Type := (Bool × Unit) ⊕ (Unit)
def Qo.l2.r (k : Nat) {ρ : Type} (x : Qo.l2.σ) (kn : Qo.l2.σ → Option ρ) (ke : Qo.l2.τ → Option ρ) : Option ρ :=
 bif (decide (x.2.2.1 < x.2.1)) then (bif (decide (((0 : Int) ≤ x.2.2.1) ∧ (x.2.2.1 < (((List.length x.1) : Nat) : Int)))) then (let v11 : Int := (List.getD x.1 (Int.toNat x.2.2.1) (((List.replicate 32 (0 : Int)), ((0 : Int), ())), (ByteArray.empty, ((0 : Int), ())))).2.2.1
 bif (v11 != (4294967295 : Int)) then (ke (.inl (false, ()))) else (let v12 : Int := (IntKind.wrap IntKind.i64 (x.2.2.1 + (1 : Int)))
 kn (x.1, (x.2.1, (v12, ()))))) else (none)) else (ke (.inr ()))
def Qo.l2 (k : Nat) : Nat → Qo.l2.σ → Option Qo.l2.τ := Q12 (Qo.l2.r k)
def Qo.l2.T : StT := ⟨us 29 ++ .dat Qd4 :: .dat (.int .i64) :: .dat (.int .i64) :: us 7, []⟩
def Qo.l2.os : List Out := [⟨.ret, [.mask [6], .auto 0], ⟨us 6 ++ .dat .bool :: us 32, []⟩⟩, ⟨(.exit 0), [.mask [], .auto 0], ⟨us 39, []⟩⟩]
def Qo.c (k : Nat) {ρ : Type} (t : Qd3) (height : Int) (time : Int) (K : Bool × Unit → Option ρ) : Option ρ :=
  let v0 : Int := (if ((0 : Int) > height) then (0 : Int) else height)
  (Qo.p0 k (time, ((IntKind.wrap IntKind.u64 v0), ((t.1, (t.2.1, (t.2.2.1, (t.2.2.2.1, ())))), ())))).bind fun t3 => (Qo.p1 k (t3.1, ((t3.2.1.1, (t3.2.1.2.1, (t3.2.1.2.2.1, (t3.2.1.2.2.2.1, ())))), ()))).bind fun t6 => (match t6 with
 | .inl t7 => (K (t7.1, ()))
 | .inr (t8) => (let v9 : Qd5 := t8.1.2.1
  let v10 : Int := (((List.length v9) : Nat) : Int)
  (Qo.l2 k k (v9, (v10, ((0 : Int), ())))).bind fun t13 => (match t13 with
 | .inl t14 => (K (t14.1, ()))
 | .inr (t15) => (K (true, ())))))
def Qo (k : Nat) (t : Qd3) (height : Int) (time : Int) : Option (Bool × Unit) := Qo.c k t height time some
def Qo.tin : List Ty := [Qd0, (.int .i64), (.int .u32)]
def Qo.tout : List Ty := [.bool]
def Qo.sem (k : Nat) : Qp := Qt Qo.tin Qo.tout fun x => Qo k x.1 x.2.1 x.2.2.1
noncomputable def Qo.ctx (k : Nat) : Ctx := ⟨Tryz.prog, gam []⟩
theorem Qo.gok (k : Nat) : ∀ f, Qh Tryz.prog f ((Qo.ctx k).Γ f) := QO
theorem Qo.l2.round (k : Nat) : Q0Q (Qo.ctx k) (Q08 (Func.code Tryz.f80) [1, 1, 1, 1, 0, 1, 0, 0]) (.nil) Qo.l2.T [.mask [29, 30, 31], .auto 0] Qo.l2.os (Qo.l2.r k) := by
 intro ρ x kn ke; kernel_rfl
theorem Qo.l2.ok (k : Nat) : StOK 0 Tryz.prog (.loop (Q08 (Func.code Tryz.f80) [1, 1, 1, 1, 0, 1, 0, 0])) (Qr Qo.l2.T Qo.l2.os (Qo.l2 k k)) :=
 Q0R (C := Qo.ctx k) (Qo.gok k) Tryz.mix Q0.nil (by kernel_rfl) (by kernel_rfl) (by kernel_rfl) (Qo.l2.round k) k
theorem Qo.p1.is (k : Nat) : Q3g (Qo.ctx k) (Q08 (Func.code Tryz.f80) [1, 1, 1, 0]) (.nil) Qo.p1.T Qo.p1.os (Qo.p1.r k) := by
 intro ρ x K; kernel_rfl
theorem Qo.p1.ok (k : Nat) : StOK 0 Tryz.prog (Q08 (Func.code Tryz.f80) [1, 1, 1, 0]) (Qr Qo.p1.T Qo.p1.os (Qo.p1 k)) :=
 Q2U (C := Qo.ctx k) (T := Qo.p1.T) (os := Qo.p1.os) (Qo.gok k) Tryz.mix (fun x K => Qo.p1.r k x K) Q0.nil (by kernel_rfl) (by kernel_rfl) (Qo.p1.is k)
theorem Qo.p0.is (k : Nat) : Q3g (Qo.ctx k) (Q08 (Func.code Tryz.f80) [1, 1, 0]) (.nil) Qo.p0.T Qo.p0.os (Qo.p0.r k) := by
 intro ρ x K; kernel_rfl
theorem Qo.p0.ok (k : Nat) : StOK 0 Tryz.prog (Q08 (Func.code Tryz.f80) [1, 1, 0]) (Qr Qo.p0.T Qo.p0.os (Qo.p0 k)) :=
 Q2U (C := Qo.ctx k) (T := Qo.p0.T) (os := Qo.p0.os) (Qo.gok k) Tryz.mix (fun x K => Qo.p0.r k x K) Q0.nil (by kernel_rfl) (by kernel_rfl) (Qo.p0.is k)
def Qo.ann (k : Nat) : Ann := .node [] none (.nil) (.node [] none (.nil) (.node [] none (.node [.mask [2, 3, 7], .auto 0] (some (Qr Qo.p0.T Qo.p0.os (Qo.p0 k))) .nil .nil) (.node [] none (.node [.mask [3, 7], .auto 0] (some (Qr Qo.p1.T Qo.p1.os (Qo.p1 k))) .nil .nil) (.node [] none (.node [] none (.nil) (.node [] none (.node [.mask [29, 30, 31], .auto 0] (some (Qr Qo.l2.T Qo.l2.os (Qo.l2 k k))) .nil .nil) (.nil))) (.nil)))))
theorem Qo.body (k : Nat) : Q0I (Qo.ctx k) Tryz.f80 (Func.code Tryz.f80) (Qo.ann k) Qo.tin Qo.tout (fun x K => Qo.c k x.1 x.2.1 x.2.2.1 K) := by
 intro ρ x K; kernel_rfl
theorem Qo.sem_ok (k : Nat) : Qh Tryz.prog 80 (Qo.sem k) :=
 Qv (C := Qo.ctx k) (Qo.gok k) Tryz.mix (c := Func.code Tryz.f80) (ann := Qo.ann k) (tin := Qo.tin) (tout := Qo.tout) (fun x K => Qo.c k x.1 x.2.1 x.2.2.1 K) Tryz.func80 (by kernel_rfl) (by kernel_rfl) (Q0.seq Q0.nil (Q0.seq Q0.nil (Q0.seq (Q0.loop (by kernel_rfl) (Qo.p0.ok k)) (Q0.seq (Q0.loop (by kernel_rfl) (Qo.p1.ok k)) (Q0.seq (Q0.seq Q0.nil (Q0.block (Q0.loop (by kernel_rfl) (Qo.l2.ok k)))) Q0.nil))))) (Qo.body k)
end Go.Am
namespace Go.Am
open Go Go.Proofs
set_option maxRecDepth 100000
def Q15.c (k : Nat) {ρ : Type}  (K : Qdc × Unit → Option ρ) : Option ρ :=
 K (((List.replicate 32 (0 : Int)), ((4294967295 : Int), ())), ())
def Q15 (k : Nat)  : Option (Qdc × Unit) := Q15.c k  some
def Q15.tin : List Ty := []
def Q15.tout : List Ty := [Qd7]
def Q15.sem (k : Nat) : Qp := Qt Q15.tin Q15.tout fun x => Q15 k 
noncomputable def Q15.ctx (k : Nat) : Ctx := ⟨Tryz.prog, gam []⟩
theorem Q15.gok (k : Nat) : ∀ f, Qh Tryz.prog f ((Q15.ctx k).Γ f) := QO
def Q15.ann (k : Nat) : Ann := .nil
theorem Q15.body (k : Nat) : Q0I (Q15.ctx k) Tryz.f87 (Func.code Tryz.f87) (Q15.ann k) Q15.tin Q15.tout (fun x K => Q15.c k  K) := by
 intro ρ x K; kernel_rfl
theorem Q15.sem_ok (k : Nat) : Qh Tryz.prog 87 (Q15.sem k) :=
 Qv (C := Q15.ctx k) (Q15.gok k) Tryz.mix (c := Func.code Tryz.f87) (ann := Q15.ann k) (tin := Q15.tin) (tout := Q15.tout) (fun x K => Q15.c k  K) Tryz.func87 (by kernel_rfl) (by kernel_rfl) Q0.nil (Q15.body k)
def Q0T.c (k : Nat) {ρ : Type} (t : Qd3) (K : Bool × Unit → Option ρ) : Option ρ :=
 let v0 : Qd5 := t.2.1
 let v1 : Int := (((List.length v0) : Nat) : Int)
 bif (v1 == (1 : Int)) then (let v2 : Qd5 := t.2.1
 bif (decide (((0 : Int) ≤ (0 : Int)) ∧ ((0 : Int) < (((List.length v2) : Nat) : Int)))) then ((Q15 k ).bind fun t3 => K (((decide ((List.getD v2 0 (((List.replicate 32 (0 : Int)), ((0 : Int), ())), (ByteArray.empty, ((0 : Int), ())))).1.1 = t3.1.1)) && (((List.getD v2 0 (((List.replicate 32 (0 : Int)), ((0 : Int), ())), (ByteArray.empty, ((0 : Int), ())))).1.2.1 == t3.1.2.1) && true)), ())) else (none)) else (K (false, ()))
def Q0T (k : Nat) (t : Qd3) : Option (Bool × Unit) := Q0T.c k t some
def Q0T.tin : List Ty := [Qd0]
def Q0T.tout : List Ty := [.bool]
def Q0T.sem (k : Nat) : Qp := Qt Q0T.tin Q0T.tout fun x => Q0T k x.1
noncomputable def Q0T.ctx (k : Nat) : Ctx := ⟨Tryz.prog, gam [(87, (Q15.sem k))]⟩
theorem Q0T.gok (k : Nat) : ∀ f, Qh Tryz.prog f ((Q0T.ctx k).Γ f) := (Qf (Q15.sem_ok k) QO)
def Q0T.ann (k : Nat) : Ann := .nil
theorem Q0T.body (k : Nat) : Q0I (Q0T.ctx k) Tryz.f50 (Func.code Tryz.f50) (Q0T.ann k) Q0T.tin Q0T.tout (fun x K => Q0T.c k x.1 K) := by
 intro ρ x K; kernel_rfl
theorem Q0T.sem_ok (k : Nat) : Qh Tryz.prog 50 (Q0T.sem k) :=
 Qv (C := Q0T.ctx k) (Q0T.gok k) Tryz.mix (c := Func.code Tryz.f50) (ann := Q0T.ann k) (tin := Q0T.tin) (tout := Q0T.tout) (fun x K => Q0T.c k x.1 K) Tryz.func50 (by kernel_rfl) (by kernel_rfl) Q0.nil (Q0T.body k)
end Go.Am
namespace Go.Am
open Go Go.Proofs
set_option maxRecDepth 100000
abbrev Q0B.l0.σ : Type := Int × Qdb × Int × Int × Unit
abbrev Q0B.l0.τ : Type := (Int × Int × Unit) ⊕ (Int × Unit)
def Q0B.l0.r (k : Nat) {ρ : Type} (x : Q0B.l0.σ) (kn : Q0B.l0.σ → Option ρ) (ke : Q0B.l0.τ → Option ρ) : Option ρ :=
 bif (decide (x.2.2.2.1 < x.2.2.1)) then (bif (decide (((0 : Int) ≤ x.2.2.2.1) ∧ (x.2.2.2.1 < (((List.length x.2.1) : Nat) : Int)))) then (let v2 : Int := (List.getD x.2.1 (Int.toNat x.2.2.2.1) ((0 : Int), (ByteArray.empty, ()))).1
 bif (decide (v2 > (1000000 : Int))) then (ke (.inl ((0 : Int), ((103 : Int), ())))) else (let v3 : Int := (List.getD x.2.1 (Int.toNat x.2.2.2.1) ((0 : Int), (ByteArray.empty, ()))).1
 let v4 : Int := (IntKind.wrap IntKind.u64 (x.1 + v3))
 bif (decide (v4 > (1000000 : Int))) then (ke (.inl ((0 : Int), ((103 : Int), ())))) else (let v5 : Int := (List.getD x.2.1 (Int.toNat x.2.2.2.1) ((0 : Int), (ByteArray.empty, ()))).1
 let v6 : Int := (IntKind.wrap IntKind.u64 (x.1 + v5))
 let v7 : Int := (IntKind.wrap IntKind.i64 (x.2.2.2.1 + (1 : Int)))
 kn (v6, (x.2.1, (x.2.2.1, (v7, ()))))))) else (none)) else (ke (.inr (x.1, ())))
def Q0B.l0 (k : Nat) : Nat → Q0B.l0.σ → Option Q0B.l0.τ := Q12 (Q0B.l0.r k)
def Q0B.l0.T : StT := ⟨us 4 ++ .dat (.int .u64) :: us 3 ++ .dat (.sl (.pair (.int .u64) (.pair .str .unit))) :: .dat (.int .i64) :: .dat (.int .i64) :: us 19, []⟩
def Q0B.l0.os : List Out := [⟨.ret, [.mask [2, 3], .auto 0], ⟨us 2 ++ .dat (.int .u64) :: .dat (.int .i64) :: us 26, []⟩⟩, ⟨(.exit 0), [.mask [4], .auto 0], ⟨us 4 ++ .dat (.int .u64) :: us 25, []⟩⟩]
def Q0B.c (k : Nat) {ρ : Type} (t : Qd3) (K : Int × Int × Unit → Option ρ) : Option ρ :=
  let v0 : Qdb := t.2.2.1
  let v1 : Int := (((List.length v0) : Nat) : Int)
  (Q0B.l0 k k ((0 : Int), (v0, (v1, ((0 : Int), ()))))).bind fun t8 => (match t8 with
 | .inl t9 => (K (t9.1, (t9.2.1, ())))
 | .inr (t10) => (K (t10.1, ((0 : Int), ()))))
def Q0B (k : Nat) (t : Qd3) : Option (Int × Int × Unit) := Q0B.c k t some
def Q0B.tin : List Ty := [Qd0]
def Q0B.tout : List Ty := [(.int .u64), (.int .i64)]
def Q0B.sem (k : Nat) : Qp := Qt Q0B.tin Q0B.tout fun x => Q0B k x.1
noncomputable def Q0B.ctx (k : Nat) : Ctx := ⟨Tryz.prog, gam []⟩
theorem Q0B.gok (k : Nat) : ∀ f, Qh Tryz.prog f ((Q0B.ctx k).Γ f) := QO
theorem Q0B.l0.round (k : Nat) : Q0Q (Q0B.ctx k) (Q08 (Func.code Tryz.f42) [1, 1, 0, 1, 0, 0]) (.nil) Q0B.l0.T [.mask [4, 8, 9, 10], .auto 0] Q0B.l0.os (Q0B.l0.r k) := by
 intro ρ x kn ke; kernel_rfl
theorem Q0B.l0.ok (k : Nat) : StOK 0 Tryz.prog (.loop (Q08 (Func.code Tryz.f42) [1, 1, 0, 1, 0, 0])) (Qr Q0B.l0.T Q0B.l0.os (Q0B.l0 k k)) :=
 Q0R (C := Q0B.ctx k) (Q0B.gok k) Tryz.mix Q0.nil (by kernel_rfl) (by kernel_rfl) (by kernel_rfl) (Q0B.l0.round k) k
def Q0B.ann (k : Nat) : Ann := .node [] none (.nil) (.node [] none (.nil) (.node [] none (.node [] none (.nil) (.node [] none (.node [.mask [4, 8, 9, 10], .auto 0] (some (Qr Q0B.l0.T Q0B.l0.os (Q0B.l0 k k))) .nil .nil) (.nil))) (.nil)))
theorem Q0B.body (k : Nat) : Q0I (Q0B.ctx k) Tryz.f42 (Func.code Tryz.f42) (Q0B.ann k) Q0B.tin Q0B.tout (fun x K => Q0B.c k x.1 K) := by
 intro ρ x K; kernel_rfl
theorem Q0B.sem_ok (k : Nat) : Qh Tryz.prog 42 (Q0B.sem k) :=
 Qv (C := Q0B.ctx k) (Q0B.gok k) Tryz.mix (c := Func.code Tryz.f42) (ann := Q0B.ann k) (tin := Q0B.tin) (tout := Q0B.tout) (fun x K => Q0B.c k x.1 K) Tryz.func42 (by kernel_rfl) (by kernel_rfl) (Q0.seq Q0.nil (Q0.seq Q0.nil (Q0.seq (Q0.seq Q0.nil (Q0.block (Q0.loop (by kernel_rfl) (Q0B.l0.ok k)))) Q0.nil))) (Q0B.body k)
end Go.Am
namespace Go.Am
open Go Go.Proofs
set_option maxRecDepth 100000
def Q0u.c (k : Nat) {ρ : Type} (height : Int) (K : Int × Unit → Option ρ) : Option ρ :=
 bif (decide (height < (0 : Int))) then (K ((0 : Int), ())) else (let v0 : Int := (IntKind.wrap IntKind.i64 (Int.tdiv height (64 : Int)))
 bif (decide ((0 : Int) ≤ v0)) then (let v1 : Int := (Q1P IntKind.u64 (5000 : Int) v0)
 K (v1, ())) else (none))
def Q0u (k : Nat) (height : Int) : Option (Int × Unit) := Q0u.c k height some
def Q0u.tin : List Ty := [(.int .i64)]
def Q0u.tout : List Ty := [(.int .u64)]
def Q0u.sem (k : Nat) : Qp := Qt Q0u.tin Q0u.tout fun x => Q0u k x.1
noncomputable def Q0u.ctx (k : Nat) : Ctx := ⟨Tryz.prog, gam []⟩
theorem Q0u.gok (k : Nat) : ∀ f, Qh Tryz.prog f ((Q0u.ctx k).Γ f) := QO
def Q0u.ann (k : Nat) : Ann := .nil
theorem Q0u.body (k : Nat) : Q0I (Q0u.ctx k) Tryz.f43 (Func.code Tryz.f43) (Q0u.ann k) Q0u.tin Q0u.tout (fun x K => Q0u.c k x.1 K) := by
 intro ρ x K; kernel_rfl
theorem Q0u.sem_ok (k : Nat) : Qh Tryz.prog 43 (Q0u.sem k) :=
 Qv (C := Q0u.ctx k) (Q0u.gok k) Tryz.mix (c := Func.code Tryz.f43) (ann := Q0u.ann k) (tin := Q0u.tin) (tout := Q0u.tout) (fun x K => Q0u.c k x.1 K) Tryz.func43 (by kernel_rfl) (by kernel_rfl) Q0.nil (Q0u.body k)
end Go.Am
namespace Go.Am
open Go Go.Proofs
set_option maxRecDepth 100000
def Q0g.c (k : Nat) {ρ : Type} (t : Qd3) (K : Bool × Unit → Option ρ) : Option ρ :=
 let v0 : Qd5 := t.2.1
 let v1 : Int := (((List.length v0) : Nat) : Int)
 bif (v1 == (1 : Int)) then (let v2 : Qd5 := t.2.1
 bif (decide (((0 : Int) ≤ (0 : Int)) ∧ ((0 : Int) < (((List.length v2) : Nat) : Int)))) then (K (((decide ((List.getD v2 0 (((List.replicate 32 (0 : Int)), ((0 : Int), ())), (ByteArray.empty, ((0 : Int), ())))).1.1 = (List.replicate 32 (0 : Int)))) && (((List.getD v2 0 (((List.replicate 32 (0 : Int)), ((0 : Int), ())), (ByteArray.empty, ((0 : Int), ())))).1.2.1 == (4294967295 : Int)) && true)), ())) else (none)) else (K (false, ()))
def Q0g (k : Nat) (t : Qd3) : Option (Bool × Unit) := Q0g.c k t some
def Q0g.tin : List Ty := [Qd0]
def Q0g.tout : List Ty := [.bool]
def Q0g.sem (k : Nat) : Qp := Qt Q0g.tin Q0g.tout fun x => Q0g k x.1
noncomputable def Q0g.ctx (k : Nat) : Ctx := ⟨Tryz.prog, gam []⟩
theorem Q0g.gok (k : Nat) : ∀ f, Qh Tryz.prog f ((Q0g.ctx k).Γ f) := QO
def Q0g.ann (k : Nat) : Ann := .nil
theorem Q0g.body (k : Nat) : Q0I (Q0g.ctx k) Tryz.f76 (Func.code Tryz.f76) (Q0g.ann k) Q0g.tin Q0g.tout (fun x K => Q0g.c k x.1 K) := by
 intro ρ x K; kernel_rfl
theorem Q0g.sem_ok (k : Nat) : Qh Tryz.prog 76 (Q0g.sem k) :=
 Qv (C := Q0g.ctx k) (Q0g.gok k) Tryz.mix (c := Func.code Tryz.f76) (ann := Q0g.ann k) (tin := Q0g.tin) (tout := Q0g.tout) (fun x K => Q0g.c k x.1 K) Tryz.func76 (by kernel_rfl) (by kernel_rfl) Q0.nil (Q0g.body k)
abbrev Q0p.τ : Type := (Qda × Unit)
def Q0p.c (k : Nat) {ρ : Type} (s : ByteArray) (K : Q0p.τ → Option ρ) : Option ρ :=
 K ((s, ((0 : Int), ((0 : Int), ()))), ())
def Q0p (k : Nat) (s : ByteArray) : Option Q0p.τ := Q0p.c k s some
def Q0p.T : Q1a := ⟨[.dat .str], [], 0⟩
def Q0p.os : List Out := [⟨.ret, [.auto 0], ⟨[.ptr 0 []], [.dat Qd6]⟩⟩]
def Q0p.sem (k : Nat) : Qp := Q1g Q0p.T Q0p.os fun x => Q0p k x.1
noncomputable def Q0p.ctx (k : Nat) : Ctx := ⟨Tryz.prog, gam []⟩
theorem Q0p.gok (k : Nat) : ∀ f, Qh Tryz.prog f ((Q0p.ctx k).Γ f) := QO
def Q0p.ann (k : Nat) : Ann := .nil
theorem Q0p.body (k : Nat) : Q1m (Q0p.ctx k) Tryz.f77 (Func.code Tryz.f77) (Q0p.ann k) Q0p.T Q0p.os (fun x K => Q0p.c k x.1 K) := by
 intro ρ x K; kernel_rfl
theorem Q0p.sem_ok (k : Nat) : Qh Tryz.prog 77 (Q0p.sem k) :=
 Q0S (C := Q0p.ctx k) (Q0p.gok k) Tryz.mix (c := Func.code Tryz.f77) (ann := Q0p.ann k) (T := Q0p.T) (os := Q0p.os) (fun x K => Q0p.c k x.1 K) Tryz.func77 (by kernel_rfl) (by kernel_rfl) Q0.nil (Q0p.body k) (by kernel_rfl) (by kernel_rfl) (by kernel_rfl)
abbrev Q0c.τ : Type := Qd8 
def Q0c.c (k : Nat) {ρ : Type} (b0 : Qda) (K : Q0c.τ → Option ρ) : Option ρ :=
 let v0 : Int := b0.2.2.1
 K (v0, ((b0.1, (b0.2.1, (b0.2.2.1, ()))), ()))
def Q0c (k : Nat) (b0 : Qda) : Option Q0c.τ := Q0c.c k b0 some
def Q0c.T : Q1a := ⟨[.ptr 0 []], [.dat Qd6], 1⟩
def Q0c.os : List Out := [⟨.ret, [.freeze (.slot 0), .auto 1], ⟨[.dat (.int .i64)], [.dat Qd6]⟩⟩]
def Q0c.sem (k : Nat) : Qp := Q1g Q0c.T Q0c.os fun x => Q0c k x.1
noncomputable def Q0c.ctx (k : Nat) : Ctx := ⟨Tryz.prog, gam []⟩
theorem Q0c.gok (k : Nat) : ∀ f, Qh Tryz.prog f ((Q0c.ctx k).Γ f) := QO
def Q0c.ann (k : Nat) : Ann := .nil
theorem Q0c.body (k : Nat) : Q1m (Q0c.ctx k) Tryz.f79 (Func.code Tryz.f79) (Q0c.ann k) Q0c.T Q0c.os (fun x K => Q0c.c k x.1 K) := by
 intro ρ x K; kernel_rfl
theorem Q0c.sem_ok (k : Nat) : Qh Tryz.prog 79 (Q0c.sem k) :=
 Q0S (C := Q0c.ctx k) (Q0c.gok k) Tryz.mix (c := Func.code Tryz.f79) (ann := Q0c.ann k) (T := Q0c.T) (os := Q0c.os) (fun x K => Q0c.c k x.1 K) Tryz.func79 (by kernel_rfl) (by kernel_rfl) Q0.nil (Q0c.body k) (by kernel_rfl) (by kernel_rfl) (by kernel_rfl)
abbrev Q0d.τ : Type := Qd8 
def Q0d.c (k : Nat) {ρ : Type} (b0 : Qda) (K : Q0d.τ → Option ρ) : Option ρ :=
 let v0 : ByteArray := b0.1
 let v1 : Int := b0.2.1
 let v2 : Int := (IntKind.wrap IntKind.i64 ((((ByteArray.size v0) : Nat) : Int) - v1))
 K (v2, ((b0.1, (b0.2.1, (b0.2.2.1, ()))), ()))
def Q0d (k : Nat) (b0 : Qda) : Option Q0d.τ := Q0d.c k b0 some
def Q0d.T : Q1a := ⟨[.ptr 0 []], [.dat Qd6], 1⟩
def Q0d.os : List Out := [⟨.ret, [.freeze (.slot 0), .auto 1], ⟨[.dat (.int .i64)], [.dat Qd6]⟩⟩]
def Q0d.sem (k : Nat) : Qp := Q1g Q0d.T Q0d.os fun x => Q0d k x.1
noncomputable def Q0d.ctx (k : Nat) : Ctx := ⟨Tryz.prog, gam []⟩
theorem Q0d.gok (k : Nat) : ∀ f, Qh Tryz.prog f ((Q0d.ctx k).Γ f) := QO
def Q0d.ann (k : Nat) : Ann := .nil
theorem Q0d.body (k : Nat) : Q1m (Q0d.ctx k) Tryz.f128 (Func.code Tryz.f128) (Q0d.ann k) Q0d.T Q0d.os (fun x K => Q0d.c k x.1 K) := by
 intro ρ x K; kernel_rfl
theorem Q0d.sem_ok (k : Nat) : Qh Tryz.prog 128 (Q0d.sem k) :=
 Q0S (C := Q0d.ctx k) (Q0d.gok k) Tryz.mix (c := Func.code Tryz.f128) (ann := Q0d.ann k) (T := Q0d.T) (os := Q0d.os) (fun x K => Q0d.c k x.1 K) Tryz.func128 (by kernel_rfl) (by kernel_rfl) Q0.nil (Q0d.body k) (by kernel_rfl) (by kernel_rfl) (by kernel_rfl)
abbrev Q06.τ : Type := (ByteArray × Qda × Unit)
def Q06.c (k : Nat) {ρ : Type} (n : Int) (b0 : Qda) (K : Q06.τ → Option ρ) : Option ρ :=
 (Q0c k (b0.1, (b0.2.1, (b0.2.2.1, ())))).bind fun t0 => bif (t0.1 != (0 : Int)) then (K ((⟨(List.toArray [])⟩ : ByteArray), ((t0.2.1.1, (t0.2.1.2.1, (t0.2.1.2.2.1, ()))), ()))) else (bif (decide (n < (0 : Int))) then (K ((⟨(List.toArray [])⟩ : ByteArray), ((t0.2.1.1, (t0.2.1.2.1, ((1 : Int), ()))), ()))) else ((Q0d k (t0.2.1.1, (t0.2.1.2.1, (t0.2.1.2.2.1, ())))).bind fun t1 => bif (decide (n > t1.1)) then (K ((⟨(List.toArray [])⟩ : ByteArray), ((t1.2.1.1, (t1.2.1.2.1, ((4 : Int), ()))), ()))) else (let v2 : Int := t1.2.1.2.1
 let v3 : Int := (IntKind.wrap IntKind.i64 (v2 + n))
 let v4 : ByteArray := t1.2.1.1
 let v5 : Int := (IntKind.wrap IntKind.i64 (v3 - n))
 bif (decide (((0 : Int) ≤ v5) ∧ ((v5 ≤ v3) ∧ (v3 ≤ (((ByteArray.size v4) : Nat) : Int))))) then (K ((ByteArray.extract v4 (Int.toNat v5) (Int.toNat v3)), ((t1.2.1.1, (v3, (t1.2.1.2.2.1, ()))), ()))) else (none))))
def Q06 (k : Nat) (n : Int) (b0 : Qda) : Option Q06.τ := Q06.c k n b0 some
def Q06.T : Q1a := ⟨[.ptr 0 [], .dat (.int .i64)], [.dat Qd6], 1⟩
def Q06.os : List Out := [⟨.ret, [.freeze (.slot 0), .auto 1], ⟨[.dat .str], [.dat Qd6]⟩⟩]
def Q06.sem (k : Nat) : Qp := Q1g Q06.T Q06.os fun x => Q06 k x.1 x.2.1
noncomputable def Q06.ctx (k : Nat) : Ctx := ⟨Tryz.prog, gam [(79, (Q0c.sem k)), (128, (Q0d.sem k))]⟩
theorem Q06.gok (k : Nat) : ∀ f, Qh Tryz.prog f ((Q06.ctx k).Γ f) := (Qf (Q0c.sem_ok k) (Qf (Q0d.sem_ok k) QO))
def Q06.ann (k : Nat) : Ann := .nil
theorem Q06.body (k : Nat) : Q1m (Q06.ctx k) Tryz.f105 (Func.code Tryz.f105) (Q06.ann k) Q06.T Q06.os (fun x K => Q06.c k x.1 x.2.1 K) := by
 intro ρ x K; kernel_rfl
theorem Q06.sem_ok (k : Nat) : Qh Tryz.prog 105 (Q06.sem k) :=
 Q0S (C := Q06.ctx k) (Q06.gok k) Tryz.mix (c := Func.code Tryz.f105) (ann := Q06.ann k) (T := Q06.T) (os := Q06.os) (fun x K => Q06.c k x.1 x.2.1 K) Tryz.func105 (by kernel_rfl) (by kernel_rfl) Q0.nil (Q06.body k) (by kernel_rfl) (by kernel_rfl) (by kernel_rfl)
abbrev Q0t.l0.σ : Type := ByteArray × Int × Int × Int × Unit
abbrev Q0t.l0.τ : Type := (Int × Unit)
def Q0t.l0.r (k : Nat) {ρ : Type} (x : Q0t.l0.σ) (kn : Q0t.l0.σ → Option ρ) (ke : Q0t.l0.τ → Option ρ) : Option ρ :=
 bif (decide (x.2.2.2.1 < x.2.2.1)) then (bif (decide (((0 : Int) ≤ x.2.2.2.1) ∧ (x.2.2.2.1 < (((ByteArray.size x.1) : Nat) : Int)))) then (let v0 : Int := (Q63 x.1 (Int.toNat x.2.2.2.1))
 let v1 : Int := (IntKind.wrap IntKind.i64 ((8 : Int) * x.2.2.2.1))
 bif (decide ((0 : Int) ≤ v1)) then (let v2 : Int := (Q0Z BinOp.or IntKind.u64 x.2.1 (Q31 IntKind.u64 (IntKind.wrap IntKind.u64 v0) v1))
 let v3 : Int := (IntKind.wrap IntKind.i64 (x.2.2.2.1 + (1 : Int)))
 kn (x.1, (v2, (x.2.2.1, (v3, ()))))) else (none)) else (none)) else (ke (x.2.1, ()))
def Q0t.l0 (k : Nat) : Nat → Q0t.l0.σ → Option Q0t.l0.τ := Q12 (Q0t.l0.r k)
def Q0t.l0.T : StT := ⟨.dat .str :: us 2 ++ .dat (.int .u64) :: us 2 ++ .dat (.int .i64) :: .dat (.int .i64) :: us 13, []⟩
def Q0t.l0.os : List Out := [⟨(.exit 0), [.mask [3], .auto 0], ⟨us 3 ++ .dat (.int .u64) :: us 17, []⟩⟩]
def Q0t.c (k : Nat) {ρ : Type} (s : ByteArray) (K : Int × Unit → Option ρ) : Option ρ :=
 (Q0t.l0 k k (s, ((0 : Int), ((((ByteArray.size s) : Nat) : Int), ((0 : Int), ()))))).bind fun t4 => K (t4.1, ())
def Q0t (k : Nat) (s : ByteArray) : Option (Int × Unit) := Q0t.c k s some
def Q0t.tin : List Ty := [.str]
def Q0t.tout : List Ty := [(.int .u64)]
def Q0t.sem (k : Nat) : Qp := Qt Q0t.tin Q0t.tout fun x => Q0t k x.1
noncomputable def Q0t.ctx (k : Nat) : Ctx := ⟨Tryz.prog, gam []⟩
theorem Q0t.gok (k : Nat) : ∀ f, Qh Tryz.prog f ((Q0t.ctx k).Γ f) := QO
theorem Q0t.l0.round (k : Nat) : Q0Q (Q0t.ctx k) (Q08 (Func.code Tryz.f104) [1, 1, 0, 1, 0, 0]) (.nil) Q0t.l0.T [.mask [0, 3, 6, 7], .auto 0] Q0t.l0.os (Q0t.l0.r k) := by
 intro ρ x kn ke; kernel_rfl
theorem Q0t.l0.ok (k : Nat) : StOK 0 Tryz.prog (.loop (Q08 (Func.code Tryz.f104) [1, 1, 0, 1, 0, 0])) (Qr Q0t.l0.T Q0t.l0.os (Q0t.l0 k k)) :=
 Q0R (C := Q0t.ctx k) (Q0t.gok k) Tryz.mix Q0.nil (by kernel_rfl) (by kernel_rfl) (by kernel_rfl) (Q0t.l0.round k) k
def Q0t.ann (k : Nat) : Ann := .node [] none (.nil) (.node [] none (.nil) (.node [] none (.node [] none (.nil) (.node [] none (.node [] (some (Qr Q0t.l0.T Q0t.l0.os (Q0t.l0 k k))) .nil .nil) (.nil))) (.nil)))
theorem Q0t.body (k : Nat) : Q0I (Q0t.ctx k) Tryz.f104 (Func.code Tryz.f104) (Q0t.ann k) Q0t.tin Q0t.tout (fun x K => Q0t.c k x.1 K) := by
 intro ρ x K; kernel_rfl
theorem Q0t.sem_ok (k : Nat) : Qh Tryz.prog 104 (Q0t.sem k) :=
 Qv (C := Q0t.ctx k) (Q0t.gok k) Tryz.mix (c := Func.code Tryz.f104) (ann := Q0t.ann k) (tin := Q0t.tin) (tout := Q0t.tout) (fun x K => Q0t.c k x.1 K) Tryz.func104 (by kernel_rfl) (by kernel_rfl) (Q0.seq Q0.nil (Q0.seq Q0.nil (Q0.seq (Q0.seq Q0.nil (Q0.block (Q0.loop (by kernel_rfl) (Q0t.l0.ok k)))) Q0.nil))) (Q0t.body k)
abbrev QZ.τ : Type := Qd8 
def QZ.c (k : Nat) {ρ : Type} (b0 : Qda) (K : QZ.τ → Option ρ) : Option ρ :=
 (Q06 k (4 : Int) (b0.1, (b0.2.1, (b0.2.2.1, ())))).bind fun t0 => (Q0t k t0.1).bind fun t1 => let v2 : Int := (IntKind.wrap IntKind.u32 t1.1)
 K (v2, ((t0.2.1.1, (t0.2.1.2.1, (t0.2.1.2.2.1, ()))), ()))
def QZ (k : Nat) (b0 : Qda) : Option QZ.τ := QZ.c k b0 some
def QZ.T : Q1a := ⟨[.ptr 0 []], [.dat Qd6], 1⟩
def QZ.os : List Out := [⟨.ret, [.freeze (.slot 0), .auto 1], ⟨[.dat (.int .u32)], [.dat Qd6]⟩⟩]
def QZ.sem (k : Nat) : Qp := Q1g QZ.T QZ.os fun x => QZ k x.1
noncomputable def QZ.ctx (k : Nat) : Ctx := ⟨Tryz.prog, gam [(105, (Q06.sem k)), (104, (Q0t.sem k))]⟩
theorem QZ.gok (k : Nat) : ∀ f, Qh Tryz.prog f ((QZ.ctx k).Γ f) := (Qf (Q06.sem_ok k) (Qf (Q0t.sem_ok k) QO))
def QZ.ann (k : Nat) : Ann := .nil
theorem QZ.body (k : Nat) : Q1m (QZ.ctx k) Tryz.f78 (Func.code Tryz.f78) (QZ.ann k) QZ.T QZ.os (fun x K => QZ.c k x.1 K) := by
 intro ρ x K; kernel_rfl
theorem QZ.sem_ok (k : Nat) : Qh Tryz.prog 78 (QZ.sem k) :=
 Q0S (C := QZ.ctx k) (QZ.gok k) Tryz.mix (c := Func.code Tryz.f78) (ann := QZ.ann k) (T := QZ.T) (os := QZ.os) (fun x K => QZ.c k x.1 K) Tryz.func78 (by kernel_rfl) (by kernel_rfl) Q0.nil (QZ.body k) (by kernel_rfl) (by kernel_rfl) (by kernel_rfl)
def QZ.wsem (k : Nat) : Qp := Qbn QZ.T QZ.os fun x => QZ k x.1
theorem QZ.wsem_ok (k : Nat) : Qh Tryz.prog 78 (QZ.wsem k) := Qc7 (QZ.sem_ok k)
def Q0v.c (k : Nat) {ρ : Type} (t : Qd3) (K : Int × Bool × Unit → Option ρ) : Option ρ :=
 (Q0g k (t.1, (t.2.1, (t.2.2.1, (t.2.2.2.1, ()))))).bind fun t0 => bif (!t0.1) then (K ((0 : Int), (false, ()))) else (let v1 : Qd5 := t.2.1
 bif (decide (((0 : Int) ≤ (0 : Int)) ∧ ((0 : Int) < (((List.length v1) : Nat) : Int)))) then (let v2 : ByteArray := (List.getD v1 0 (((List.replicate 32 (0 : Int)), ((0 : Int), ())), (ByteArray.empty, ((0 : Int), ())))).2.1
 (Q0p k v2).bind fun t3 => (QZ k (t3.1.1, (t3.1.2.1, (t3.1.2.2.1, ())))).bind fun t4 => (Q0c k (t4.2.1.1, (t4.2.1.2.1, (t4.2.1.2.2.1, ())))).bind fun t5 => bif (t5.1 != (0 : Int)) then (K ((0 : Int), (false, ()))) else (bif (decide (t4.1 > (2147483647 : Int))) then (K ((0 : Int), (false, ()))) else (let v6 : Int := (IntKind.wrap IntKind.i64 t4.1)
 K (v6, (true, ()))))) else (none))
def Q0v (k : Nat) (t : Qd3) : Option (Int × Bool × Unit) := Q0v.c k t some
def Q0v.tin : List Ty := [Qd0]
def Q0v.tout : List Ty := [(.int .i64), .bool]
def Q0v.sem (k : Nat) : Qp := Qt Q0v.tin Q0v.tout fun x => Q0v k x.1
noncomputable def Q0v.ctx (k : Nat) : Ctx := ⟨Tryz.prog, gam [(76, (Q0g.sem k)), (77, (Q0p.sem k)), (78, (QZ.wsem k)), (79, (Q0c.sem k))]⟩
theorem Q0v.gok (k : Nat) : ∀ f, Qh Tryz.prog f ((Q0v.ctx k).Γ f) := (Qf (Q0g.sem_ok k) (Qf (Q0p.sem_ok k) (Qf (QZ.wsem_ok k) (Qf (Q0c.sem_ok k) QO))))
def Q0v.ann (k : Nat) : Ann := .nil
theorem Q0v.body (k : Nat) : Q0I (Q0v.ctx k) Tryz.f40 (Func.code Tryz.f40) (Q0v.ann k) Q0v.tin Q0v.tout (fun x K => Q0v.c k x.1 K) := by
 intro ρ x K; kernel_rfl
theorem Q0v.sem_ok (k : Nat) : Qh Tryz.prog 40 (Q0v.sem k) :=
 Qv (C := Q0v.ctx k) (Q0v.gok k) Tryz.mix (c := Func.code Tryz.f40) (ann := Q0v.ann k) (tin := Q0v.tin) (tout := Q0v.tout) (fun x K => Q0v.c k x.1 K) Tryz.func40 (by kernel_rfl) (by kernel_rfl) Q0.nil (Q0v.body k)
end Go.Am
namespace Go.Am
open Go Go.Proofs
set_option maxRecDepth 100000
abbrev Q04.l0.σ : Type := Int × Qd2 × Int × Int × Unit
abbrev Q04.l0.τ : Type := (Int × Unit)
def Q04.l0.r (k : Nat) {ρ : Type} (x : Q04.l0.σ) (kn : Q04.l0.σ → Option ρ) (ke : Q04.l0.τ → Option ρ) : Option ρ :=
 bif (decide (x.2.2.2.1 < x.2.2.1)) then (bif (decide (((0 : Int) ≤ x.2.2.2.1) ∧ (x.2.2.2.1 < (((List.length x.2.1) : Nat) : Int)))) then ((Q09 k ((List.getD x.2.1 (Int.toNat x.2.2.2.1) ((0 : Int), ([], ([], ((0 : Int), ()))))).1, ((List.getD x.2.1 (Int.toNat x.2.2.2.1) ((0 : Int), ([], ([], ((0 : Int), ()))))).2.1, ((List.getD x.2.1 (Int.toNat x.2.2.2.1) ((0 : Int), ([], ([], ((0 : Int), ()))))).2.2.1, ((List.getD x.2.1 (Int.toNat x.2.2.2.1) ((0 : Int), ([], ([], ((0 : Int), ()))))).2.2.2.1, ()))))).bind fun t6 => let v7 : Int := (IntKind.wrap IntKind.i64 (x.1 + t6.1))
 let v8 : Int := (IntKind.wrap IntKind.i64 (x.2.2.2.1 + (1 : Int)))
 kn (v7, (x.2.1, (x.2.2.1, (v8, ()))))) else (none)) else (ke (x.1, ()))
def Q04.l0 (k : Nat) : Nat → Q04.l0.σ → Option Q04.l0.τ := Q12 (Q04.l0.r k)
def Q04.l0.T : StT := ⟨us 3 ++ .dat (.int .i64) :: us 9 ++ .dat QcY :: .dat (.int .i64) :: .dat (.int .i64) :: us 9, []⟩
def Q04.l0.os : List Out := [⟨(.exit 0), [.mask [3], .auto 0], ⟨us 3 ++ .dat (.int .i64) :: us 21, []⟩⟩]
def Q04.c (k : Nat) {ρ : Type} (b : QcZ) (K : Int × Unit → Option ρ) : Option ρ :=
 let v0 : Qd2 := b.2.1
 let v1 : Int := (((List.length v0) : Nat) : Int)
 (Q0a k (IntKind.wrap IntKind.u64 v1)).bind fun t2 => let v3 : Int := (IntKind.wrap IntKind.i64 ((80 : Int) + t2.1))
 let v4 : Qd2 := b.2.1
 let v5 : Int := (((List.length v4) : Nat) : Int)
 (Q04.l0 k k (v3, (v4, (v5, ((0 : Int), ()))))).bind fun t9 => K (t9.1, ())
def Q04 (k : Nat) (b : QcZ) : Option (Int × Unit) := Q04.c k b some
def Q04.tin : List Ty := [QcX]
def Q04.tout : List Ty := [(.int .i64)]
def Q04.sem (k : Nat) : Qp := Qt Q04.tin Q04.tout fun x => Q04 k x.1
noncomputable def Q04.ctx (k : Nat) : Ctx := ⟨Tryz.prog, gam [(94, (Q0a.sem k)), (101, (Q09.sem k))]⟩
theorem Q04.gok (k : Nat) : ∀ f, Qh Tryz.prog f ((Q04.ctx k).Γ f) := (Qf (Q0a.sem_ok k) (Qf (Q09.sem_ok k) QO))
theorem Q04.l0.round (k : Nat) : Q0Q (Q04.ctx k) (Q08 (Func.code Tryz.f72) [1, 1, 0, 1, 0, 0]) (.nil) Q04.l0.T [.mask [3, 13, 14, 15], .auto 0] Q04.l0.os (Q04.l0.r k) := by
 intro ρ x kn ke; kernel_rfl
theorem Q04.l0.ok (k : Nat) : StOK 0 Tryz.prog (.loop (Q08 (Func.code Tryz.f72) [1, 1, 0, 1, 0, 0])) (Qr Q04.l0.T Q04.l0.os (Q04.l0 k k)) :=
 Q0R (C := Q04.ctx k) (Q04.gok k) Tryz.mix Q0.nil (by kernel_rfl) (by kernel_rfl) (by kernel_rfl) (Q04.l0.round k) k
def Q04.ann (k : Nat) : Ann := .node [] none (.nil) (.node [] none (.nil) (.node [] none (.node [] none (.nil) (.node [] none (.node [.mask [3, 13, 14, 15], .auto 0] (some (Qr Q04.l0.T Q04.l0.os (Q04.l0 k k))) .nil .nil) (.nil))) (.nil)))
theorem Q04.body (k : Nat) : Q0I (Q04.ctx k) Tryz.f72 (Func.code Tryz.f72) (Q04.ann k) Q04.tin Q04.tout (fun x K => Q04.c k x.1 K) := by
 intro ρ x K; kernel_rfl
theorem Q04.sem_ok (k : Nat) : Qh Tryz.prog 72 (Q04.sem k) :=
 Qv (C := Q04.ctx k) (Q04.gok k) Tryz.mix (c := Func.code Tryz.f72) (ann := Q04.ann k) (tin := Q04.tin) (tout := Q04.tout) (fun x K => Q04.c k x.1 K) Tryz.func72 (by kernel_rfl) (by kernel_rfl) (Q0.seq Q0.nil (Q0.seq Q0.nil (Q0.seq (Q0.seq Q0.nil (Q0.block (Q0.loop (by kernel_rfl) (Q04.l0.ok k)))) Q0.nil))) (Q04.body k)
abbrev Q3.l0.σ : Type := Qd2 × Unit × Int × Int × Unit
abbrev Q3.l0.τ : Type := (Int × Unit) ⊕ (Unit)
def Q3.l0.r (k : Nat) {ρ : Type} (x : Q3.l0.σ) (kn : Q3.l0.σ → Option ρ) (ke : Q3.l0.τ → Option ρ) : Option ρ :=
 bif (decide (x.2.2.2.1 < x.2.2.1)) then (bif (decide (((0 : Int) ≤ x.2.2.2.1) ∧ (x.2.2.2.1 < (((List.length x.1) : Nat) : Int)))) then ((Q0T k ((List.getD x.1 (Int.toNat x.2.2.2.1) ((0 : Int), ([], ([], ((0 : Int), ()))))).1, ((List.getD x.1 (Int.toNat x.2.2.2.1) ((0 : Int), ([], ([], ((0 : Int), ()))))).2.1, ((List.getD x.1 (Int.toNat x.2.2.2.1) ((0 : Int), ([], ([], ((0 : Int), ()))))).2.2.1, ((List.getD x.1 (Int.toNat x.2.2.2.1) ((0 : Int), ([], ([], ((0 : Int), ()))))).2.2.2.1, ()))))).bind fun t1 => bif t1.1 then (ke (.inl (x.2.2.2.1, ()))) else (let v2 : Int := (IntKind.wrap IntKind.i64 (x.2.2.2.1 + (1 : Int)))
 kn (x.1, ((), (x.2.2.1, (v2, ())))))) else (none)) else (ke (.inr ()))
def Q3.l0 (k : Nat) : Nat → Q3.l0.σ → Option Q3.l0.τ := Q12 (Q3.l0.r k)
def Q3.l0.T : StT := ⟨.dat QcY :: .fn 50 (.dat .unit) :: us 5 ++ .dat (.int .i64) :: .dat (.int .i64) :: us 10, []⟩
def Q3.l0.os : List Out := [⟨.ret, [.mask [4], .auto 0], ⟨us 4 ++ .dat (.int .i64) :: us 14, []⟩⟩, ⟨(.exit 0), [.mask [], .auto 0], ⟨us 19, []⟩⟩]
abbrev Q3.τ : Type := (Int × Unit)
def Q3.c (k : Nat) {ρ : Type} (s : Qd2) (f : Unit) (K : Q3.τ → Option ρ) : Option ρ :=
  let v0 : Int := (((List.length s) : Nat) : Int)
  (Q3.l0 k k (s, ((), (v0, ((0 : Int), ()))))).bind fun t3 => (match t3 with
 | .inl t4 => (K (t4.1, ()))
 | .inr (t5) => (K ((-(1 : Int)), ())))
def Q3 (k : Nat) (s : Qd2) (f : Unit) : Option Q3.τ := Q3.c k s f some
def Q3.T : Q1a := ⟨[.dat QcY, .fn 50 (.dat .unit)], [], 0⟩
def Q3.os : List Out := [⟨.ret, [.freeze (.slot 0), .auto 0], ⟨[.dat (.int .i64)], []⟩⟩]
def Q3.sem (k : Nat) : Qp := Q1g Q3.T Q3.os fun x => Q3 k x.1 x.2.1
noncomputable def Q3.ctx (k : Nat) : Ctx := ⟨Tryz.prog, gam [(50, (Q0T.sem k))]⟩
theorem Q3.gok (k : Nat) : ∀ f, Qh Tryz.prog f ((Q3.ctx k).Γ f) := (Qf (Q0T.sem_ok k) QO)
theorem Q3.l0.round (k : Nat) : Q0Q (Q3.ctx k) (Q08 (Func.code Tryz.f102) [1, 0, 1, 0, 0]) (.nil) Q3.l0.T [.mask [0, 1, 7, 8], .auto 0] Q3.l0.os (Q3.l0.r k) := by
 intro ρ x kn ke; kernel_rfl
theorem Q3.l0.ok (k : Nat) : StOK 0 Tryz.prog (.loop (Q08 (Func.code Tryz.f102) [1, 0, 1, 0, 0])) (Qr Q3.l0.T Q3.l0.os (Q3.l0 k k)) :=
 Q0R (C := Q3.ctx k) (Q3.gok k) Tryz.mix Q0.nil (by kernel_rfl) (by kernel_rfl) (by kernel_rfl) (Q3.l0.round k) k
def Q3.ann (k : Nat) : Ann := .node [] none (.nil) (.node [] none (.node [] none (.nil) (.node [] none (.node [] (some (Qr Q3.l0.T Q3.l0.os (Q3.l0 k k))) .nil .nil) (.nil))) (.nil))
theorem Q3.body (k : Nat) : Q1m (Q3.ctx k) Tryz.f102 (Func.code Tryz.f102) (Q3.ann k) Q3.T Q3.os (fun x K => Q3.c k x.1 x.2.1 K) := by
 intro ρ x K; kernel_rfl
theorem Q3.sem_ok (k : Nat) : Qh Tryz.prog 102 (Q3.sem k) :=
 Q0S (C := Q3.ctx k) (Q3.gok k) Tryz.mix (c := Func.code Tryz.f102) (ann := Q3.ann k) (T := Q3.T) (os := Q3.os) (fun x K => Q3.c k x.1 x.2.1 K) Tryz.func102 (by kernel_rfl) (by kernel_rfl) (Q0.seq Q0.nil (Q0.seq (Q0.seq Q0.nil (Q0.block (Q0.loop (by kernel_rfl) (Q3.l0.ok k)))) Q0.nil)) (Q3.body k) (by kernel_rfl) (by kernel_rfl) (by kernel_rfl)
abbrev Qc.τ : Type := (Bool × Unit)
def Qc.c (k : Nat) {ρ : Type} (s : Qd2) (f : Unit) (K : Qc.τ → Option ρ) : Option ρ :=
 (Q3 k s ()).bind fun t0 => K ((decide (t0.1 ≥ (0 : Int))), ())
def Qc (k : Nat) (s : Qd2) (f : Unit) : Option Qc.τ := Qc.c k s f some
def Qc.T : Q1a := ⟨[.dat QcY, .fn 50 (.dat .unit)], [], 0⟩
def Qc.os : List Out := [⟨.ret, [.freeze (.slot 0), .auto 0], ⟨[.dat .bool], []⟩⟩]
def Qc.sem (k : Nat) : Qp := Q1g Qc.T Qc.os fun x => Qc k x.1 x.2.1
noncomputable def Qc.ctx (k : Nat) : Ctx := ⟨Tryz.prog, gam [(102, (Q3.sem k))]⟩
theorem Qc.gok (k : Nat) : ∀ f, Qh Tryz.prog f ((Qc.ctx k).Γ f) := (Qf (Q3.sem_ok k) QO)
def Qc.ann (k : Nat) : Ann := .nil
theorem Qc.body (k : Nat) : Q1m (Qc.ctx k) Tryz.f73 (Func.code Tryz.f73) (Qc.ann k) Qc.T Qc.os (fun x K => Qc.c k x.1 x.2.1 K) := by
 intro ρ x K; kernel_rfl
theorem Qc.sem_ok (k : Nat) : Qh Tryz.prog 73 (Qc.sem k) :=
 Q0S (C := Qc.ctx k) (Qc.gok k) Tryz.mix (c := Func.code Tryz.f73) (ann := Qc.ann k) (T := Qc.T) (os := Qc.os) (fun x K => Qc.c k x.1 x.2.1 K) Tryz.func73 (by kernel_rfl) (by kernel_rfl) Q0.nil (Qc.body k) (by kernel_rfl) (by kernel_rfl) (by kernel_rfl)
abbrev QJ.p0.σ : Type := Qd3 × Unit
abbrev QJ.p0.τ : Type := (Int × Unit) ⊕ Qd1 
def QJ.p0.r (k : Nat) {ρ : Type} (x : QJ.p0.σ) (K : QJ.p0.τ → Option ρ) : Option ρ :=
 let v3 : Qd5 := x.1.2.1
 let v4 : Int := (((List.length v3) : Nat) : Int)
 bif (v4 == (0 : Int)) then (K (.inl ((102 : Int), ()))) else (let v5 : Qdb := x.1.2.2.1
 let v6 : Int := (((List.length v5) : Nat) : Int)
 bif (v6 == (0 : Int)) then (K (.inl ((102 : Int), ()))) else (K (.inr ((x.1.1, (x.1.2.1, (x.1.2.2.1, (x.1.2.2.2.1, ())))), ()))))
def QJ.p0 (k : Nat) (x : QJ.p0.σ) : Option QJ.p0.τ := QJ.p0.r k x some
def QJ.p0.T : StT := ⟨us 1 ++ .ptr 0 [] :: us 70, [.dat Qd0]⟩
def QJ.p0.os : List Out := [⟨.ret, [.mask [2], .auto 0], ⟨us 2 ++ .dat (.int .i64) :: us 69, []⟩⟩, ⟨.normal, [.mask [1], .auto 0], ⟨us 1 ++ .ptr 0 [] :: us 70, [.dat Qd0]⟩⟩]
abbrev QJ.l1.σ : Type := Qd5 × Int × Int × Qd3 × (List (Qdc × Bool)) × Unit
abbrev QJ.l1.τ : Type := (Int × Unit) ⊕ (Qd3 × (List (Qdc × Bool)) × Unit)
def QJ.l1.r (k : Nat) {ρ : Type} (x : QJ.l1.σ) (kn : QJ.l1.σ → Option ρ) (ke : QJ.l1.τ → Option ρ) : Option ρ :=
 bif (decide (x.2.2.1 < x.2.1)) then (bif (decide (((0 : Int) ≤ x.2.2.1) ∧ (x.2.2.1 < (((List.length x.1) : Nat) : Int)))) then (bif (Option.getD (mget (Ty.pair (Ty.arr 32 (Ty.int IntKind.u8)) (Ty.pair (Ty.int IntKind.u32) Ty.unit)) ((List.getD x.1 (Int.toNat x.2.2.1) (((List.replicate 32 (0 : Int)), ((0 : Int), ())), (ByteArray.empty, ((0 : Int), ())))).1.1, ((List.getD x.1 (Int.toNat x.2.2.1) (((List.replicate 32 (0 : Int)), ((0 : Int), ())), (ByteArray.empty, ((0 : Int), ())))).1.2.1, ())) x.2.2.2.2.1) false) then (ke (.inl ((104 : Int), ()))) else (let v15 : Int := (IntKind.wrap IntKind.i64 (x.2.2.1 + (1 : Int)))
 kn (x.1, (x.2.1, (v15, ((x.2.2.2.1.1, (x.2.2.2.1.2.1, (x.2.2.2.1.2.2.1, (x.2.2.2.1.2.2.2.1, ())))), ((mset (Ty.pair (Ty.arr 32 (Ty.int IntKind.u8)) (Ty.pair (Ty.int IntKind.u32) Ty.unit)) ((List.getD x.1 (Int.toNat x.2.2.1) (((List.replicate 32 (0 : Int)), ((0 : Int), ())), (ByteArray.empty, ((0 : Int), ())))).1.1, ((List.getD x.1 (Int.toNat x.2.2.1) (((List.replicate 32 (0 : Int)), ((0 : Int), ())), (ByteArray.empty, ((0 : Int), ())))).1.2.1, ())) true x.2.2.2.2.1), ()))))))) else (none)) else (ke (.inr ((x.2.2.2.1.1, (x.2.2.2.1.2.1, (x.2.2.2.1.2.2.1, (x.2.2.2.1.2.2.2.1, ())))), (x.2.2.2.2.1, ()))))
def QJ.l1 (k : Nat) : Nat → QJ.l1.σ → Option QJ.l1.τ := Q12 (QJ.l1.r k)
def QJ.l1.T : StT := ⟨us 1 ++ .ptr 0 [] :: us 5 ++ .mp 1 :: us 31 ++ .dat Qd4 :: .dat (.int .i64) :: .dat (.int .i64) :: us 30, [.dat Qd0, .mpd Qd7 .bool]⟩
def QJ.l1.os : List Out := [⟨.ret, [.mask [2], .auto 0], ⟨us 2 ++ .dat (.int .i64) :: us 69, []⟩⟩, ⟨(.exit 0), [.mask [1, 7], .auto 0], ⟨us 1 ++ .ptr 0 [] :: us 5 ++ .mp 1 :: us 64, [.dat Qd0, .mpd Qd7 .bool]⟩⟩]
def QJ.c (k : Nat) {ρ : Type} (t : Qd3) (K : Int × Unit → Option ρ) : Option ρ :=
  (Qd k (t.1, (t.2.1, (t.2.2.1, (t.2.2.2.1, ()))))).bind fun t0 => let v1 : ByteArray := t0.1
  let v2 : Int := t0.2.1
  bif (v2 != (0 : Int)) then (K (v2, ())) else ((QJ.p0 k ((t.1, (t.2.1, (t.2.2.1, (t.2.2.2.1, ())))), ())).bind fun t7 => (match t7 with
 | .inl t8 => (K (t8.1, ()))
 | .inr (t9) => ((Q0B k (t9.1.1, (t9.1.2.1, (t9.1.2.2.1, (t9.1.2.2.2.1, ()))))).bind fun t10 => let v11 : Int := t10.1
  let v12 : Int := t10.2.1
  bif (v12 != (0 : Int)) then (K (v12, ())) else (let v13 : Qd5 := t9.1.2.1
  let v14 : Int := (((List.length v13) : Nat) : Int)
  (QJ.l1 k k (v13, (v14, ((0 : Int), ((t9.1.1, (t9.1.2.1, (t9.1.2.2.1, (t9.1.2.2.2.1, ())))), ([], ())))))).bind fun t16 => (match t16 with
 | .inl t17 => (K (t17.1, ()))
 | .inr (t18) => ((Q0T k (t18.1.1, (t18.1.2.1, (t18.1.2.2.1, (t18.1.2.2.2.1, ()))))).bind fun t19 => bif t19.1 then (let v20 : Qd5 := t18.1.2.1
  bif (decide (((0 : Int) ≤ (0 : Int)) ∧ ((0 : Int) < (((List.length v20) : Nat) : Int)))) then (let v21 : ByteArray := (List.getD v20 0 (((List.replicate 32 (0 : Int)), ((0 : Int), ())), (ByteArray.empty, ((0 : Int), ())))).2.1
  bif (decide ((((ByteArray.size v21) : Nat) : Int) < (2 : Int))) then (K ((105 : Int), ())) else (bif (decide ((((ByteArray.size v21) : Nat) : Int) > (100 : Int))) then (K ((105 : Int), ())) else (K ((0 : Int), ())))) else (none)) else ((Q15 k ).bind fun t22 => bif (Option.getD (mget (Ty.pair (Ty.arr 32 (Ty.int IntKind.u8)) (Ty.pair (Ty.int IntKind.u32) Ty.unit)) (t22.1.1, (t22.1.2.1, ())) t18.2.1) false) then (K ((106 : Int), ())) else (K ((0 : Int), ())))))))))
def QJ (k : Nat) (t : Qd3) : Option (Int × Unit) := QJ.c k t some
def QJ.tin : List Ty := [Qd0]
def QJ.tout : List Ty := [(.int .i64)]
def QJ.sem (k : Nat) : Qp := Qt QJ.tin QJ.tout fun x => QJ k x.1
noncomputable def QJ.ctx (k : Nat) : Ctx := ⟨Tryz.prog, gam [(85, (Qd.sem k)), (42, (Q0B.sem k)), (50, (Q0T.sem k)), (87, (Q15.sem k))]⟩
theorem QJ.gok (k : Nat) : ∀ f, Qh Tryz.prog f ((QJ.ctx k).Γ f) := (Qf (Qd.sem_ok k) (Qf (Q0B.sem_ok k) (Qf (Q0T.sem_ok k) (Qf (Q15.sem_ok k) QO))))
theorem QJ.l1.round (k : Nat) : Q0Q (QJ.ctx k) (Q08 (Func.code Tryz.f75) [1, 1, 1, 1, 1, 0, 1, 0, 0]) (.nil) QJ.l1.T [.mask [1, 7, 39, 40, 41], .auto 0] QJ.l1.os (QJ.l1.r k) := by
 intro ρ x kn ke; kernel_rfl
theorem QJ.l1.ok (k : Nat) : StOK 0 Tryz.prog (.loop (Q08 (Func.code Tryz.f75) [1, 1, 1, 1, 1, 0, 1, 0, 0])) (Qr QJ.l1.T QJ.l1.os (QJ.l1 k k)) :=
 Q0R (C := QJ.ctx k) (QJ.gok k) Tryz.mix Q0.nil (by kernel_rfl) (by kernel_rfl) (by kernel_rfl) (QJ.l1.round k) k
theorem QJ.p0.is (k : Nat) : Q3g (QJ.ctx k) (Q08 (Func.code Tryz.f75) [1, 1, 0]) (.nil) QJ.p0.T QJ.p0.os (QJ.p0.r k) := by
 intro ρ x K; kernel_rfl
theorem QJ.p0.ok (k : Nat) : StOK 0 Tryz.prog (Q08 (Func.code Tryz.f75) [1, 1, 0]) (Qr QJ.p0.T QJ.p0.os (QJ.p0 k)) :=
 Q2U (C := QJ.ctx k) (T := QJ.p0.T) (os := QJ.p0.os) (QJ.gok k) Tryz.mix (fun x K => QJ.p0.r k x K) Q0.nil (by kernel_rfl) (by kernel_rfl) (QJ.p0.is k)
def QJ.ann (k : Nat) : Ann := .node [] none (.nil) (.node [] none (.nil) (.node [] none (.node [.mask [1], .auto 0] (some (Qr QJ.p0.T QJ.p0.os (QJ.p0 k))) .nil .nil) (.node [] none (.nil) (.node [] none (.nil) (.node [] none (.node [] none (.nil) (.node [] none (.node [.mask [1, 7, 39, 40, 41], .auto 0] (some (Qr QJ.l1.T QJ.l1.os (QJ.l1 k k))) .nil .nil) (.nil))) (.nil))))))
theorem QJ.body (k : Nat) : Q0I (QJ.ctx k) Tryz.f75 (Func.code Tryz.f75) (QJ.ann k) QJ.tin QJ.tout (fun x K => QJ.c k x.1 K) := by
 intro ρ x K; kernel_rfl
theorem QJ.sem_ok (k : Nat) : Qh Tryz.prog 75 (QJ.sem k) :=
 Qv (C := QJ.ctx k) (QJ.gok k) Tryz.mix (c := Func.code Tryz.f75) (ann := QJ.ann k) (tin := QJ.tin) (tout := QJ.tout) (fun x K => QJ.c k x.1 K) Tryz.func75 (by kernel_rfl) (by kernel_rfl) (Q0.seq Q0.nil (Q0.seq Q0.nil (Q0.seq (Q0.loop (by kernel_rfl) (QJ.p0.ok k)) (Q0.seq Q0.nil (Q0.seq Q0.nil (Q0.seq (Q0.seq Q0.nil (Q0.block (Q0.loop (by kernel_rfl) (QJ.l1.ok k)))) Q0.nil)))))) (QJ.body k)
def Q0x.c (k : Nat) {ρ : Type} (t : Qd3) (K : Bool × Unit → Option ρ) : Option ρ :=
 (QJ k (t.1, (t.2.1, (t.2.2.1, (t.2.2.2.1, ()))))).bind fun t0 => K ((t0.1 != (0 : Int)), ())
def Q0x (k : Nat) (t : Qd3) : Option (Bool × Unit) := Q0x.c k t some
def Q0x.tin : List Ty := [Qd0]
def Q0x.tout : List Ty := [.bool]
def Q0x.sem (k : Nat) : Qp := Qt Q0x.tin Q0x.tout fun x => Q0x k x.1
noncomputable def Q0x.ctx (k : Nat) : Ctx := ⟨Tryz.prog, gam [(75, (QJ.sem k))]⟩
theorem Q0x.gok (k : Nat) : ∀ f, Qh Tryz.prog f ((Q0x.ctx k).Γ f) := (Qf (QJ.sem_ok k) QO)
def Q0x.ann (k : Nat) : Ann := .nil
theorem Q0x.body (k : Nat) : Q0I (Q0x.ctx k) Tryz.f103 (Func.code Tryz.f103) (Q0x.ann k) Q0x.tin Q0x.tout (fun x K => Q0x.c k x.1 K) := by
 intro ρ x K; kernel_rfl
theorem Q0x.sem_ok (k : Nat) : Qh Tryz.prog 103 (Q0x.sem k) :=
 Qv (C := Q0x.ctx k) (Q0x.gok k) Tryz.mix (c := Func.code Tryz.f103) (ann := Q0x.ann k) (tin := Q0x.tin) (tout := Q0x.tout) (fun x K => Q0x.c k x.1 K) Tryz.func103 (by kernel_rfl) (by kernel_rfl) Q0.nil (Q0x.body k)
abbrev Q1.l0.σ : Type := Qd2 × Unit × Int × Int × Unit
abbrev Q1.l0.τ : Type := (Int × Unit) ⊕ (Unit)
def Q1.l0.r (k : Nat) {ρ : Type} (x : Q1.l0.σ) (kn : Q1.l0.σ → Option ρ) (ke : Q1.l0.τ → Option ρ) : Option ρ :=
 bif (decide (x.2.2.2.1 < x.2.2.1)) then (bif (decide (((0 : Int) ≤ x.2.2.2.1) ∧ (x.2.2.2.1 < (((List.length x.1) : Nat) : Int)))) then ((Q0x k ((List.getD x.1 (Int.toNat x.2.2.2.1) ((0 : Int), ([], ([], ((0 : Int), ()))))).1, ((List.getD x.1 (Int.toNat x.2.2.2.1) ((0 : Int), ([], ([], ((0 : Int), ()))))).2.1, ((List.getD x.1 (Int.toNat x.2.2.2.1) ((0 : Int), ([], ([], ((0 : Int), ()))))).2.2.1, ((List.getD x.1 (Int.toNat x.2.2.2.1) ((0 : Int), ([], ([], ((0 : Int), ()))))).2.2.2.1, ()))))).bind fun t1 => bif t1.1 then (ke (.inl (x.2.2.2.1, ()))) else (let v2 : Int := (IntKind.wrap IntKind.i64 (x.2.2.2.1 + (1 : Int)))
 kn (x.1, ((), (x.2.2.1, (v2, ())))))) else (none)) else (ke (.inr ()))
def Q1.l0 (k : Nat) : Nat → Q1.l0.σ → Option Q1.l0.τ := Q12 (Q1.l0.r k)
def Q1.l0.T : StT := ⟨.dat QcY :: .fn 103 (.dat .unit) :: us 5 ++ .dat (.int .i64) :: .dat (.int .i64) :: us 10, []⟩
def Q1.l0.os : List Out := [⟨.ret, [.mask [4], .auto 0], ⟨us 4 ++ .dat (.int .i64) :: us 14, []⟩⟩, ⟨(.exit 0), [.mask [], .auto 0], ⟨us 19, []⟩⟩]
abbrev Q1.τ : Type := (Int × Unit)
def Q1.c (k : Nat) {ρ : Type} (s : Qd2) (f : Unit) (K : Q1.τ → Option ρ) : Option ρ :=
  let v0 : Int := (((List.length s) : Nat) : Int)
  (Q1.l0 k k (s, ((), (v0, ((0 : Int), ()))))).bind fun t3 => (match t3 with
 | .inl t4 => (K (t4.1, ()))
 | .inr (t5) => (K ((-(1 : Int)), ())))
def Q1 (k : Nat) (s : Qd2) (f : Unit) : Option Q1.τ := Q1.c k s f some
def Q1.T : Q1a := ⟨[.dat QcY, .fn 103 (.dat .unit)], [], 0⟩
def Q1.os : List Out := [⟨.ret, [.freeze (.slot 0), .auto 0], ⟨[.dat (.int .i64)], []⟩⟩]
def Q1.sem (k : Nat) : Qp := Q1g Q1.T Q1.os fun x => Q1 k x.1 x.2.1
noncomputable def Q1.ctx (k : Nat) : Ctx := ⟨Tryz.prog, gam [(103, (Q0x.sem k))]⟩
theorem Q1.gok (k : Nat) : ∀ f, Qh Tryz.prog f ((Q1.ctx k).Γ f) := (Qf (Q0x.sem_ok k) QO)
theorem Q1.l0.round (k : Nat) : Q0Q (Q1.ctx k) (Q08 (Func.code Tryz.f102) [1, 0, 1, 0, 0]) (.nil) Q1.l0.T [.mask [0, 1, 7, 8], .auto 0] Q1.l0.os (Q1.l0.r k) := by
 intro ρ x kn ke; kernel_rfl
theorem Q1.l0.ok (k : Nat) : StOK 0 Tryz.prog (.loop (Q08 (Func.code Tryz.f102) [1, 0, 1, 0, 0])) (Qr Q1.l0.T Q1.l0.os (Q1.l0 k k)) :=
 Q0R (C := Q1.ctx k) (Q1.gok k) Tryz.mix Q0.nil (by kernel_rfl) (by kernel_rfl) (by kernel_rfl) (Q1.l0.round k) k
def Q1.ann (k : Nat) : Ann := .node [] none (.nil) (.node [] none (.node [] none (.nil) (.node [] none (.node [] (some (Qr Q1.l0.T Q1.l0.os (Q1.l0 k k))) .nil .nil) (.nil))) (.nil))
theorem Q1.body (k : Nat) : Q1m (Q1.ctx k) Tryz.f102 (Func.code Tryz.f102) (Q1.ann k) Q1.T Q1.os (fun x K => Q1.c k x.1 x.2.1 K) := by
 intro ρ x K; kernel_rfl
theorem Q1.sem_ok (k : Nat) : Qh Tryz.prog 102 (Q1.sem k) :=
 Q0S (C := Q1.ctx k) (Q1.gok k) Tryz.mix (c := Func.code Tryz.f102) (ann := Q1.ann k) (T := Q1.T) (os := Q1.os) (fun x K => Q1.c k x.1 x.2.1 K) Tryz.func102 (by kernel_rfl) (by kernel_rfl) (Q0.seq Q0.nil (Q0.seq (Q0.seq Q0.nil (Q0.block (Q0.loop (by kernel_rfl) (Q1.l0.ok k)))) Q0.nil)) (Q1.body k) (by kernel_rfl) (by kernel_rfl) (by kernel_rfl)
def Q0K.c (k : Nat) {ρ : Type} (b : QcZ) (K : Int × Unit → Option ρ) : Option ρ :=
 let v0 : Qd2 := b.2.1
 (Q1 k v0 ()).bind fun t1 => K (t1.1, ())
def Q0K (k : Nat) (b : QcZ) : Option (Int × Unit) := Q0K.c k b some
def Q0K.tin : List Ty := [QcX]
def Q0K.tout : List Ty := [(.int .i64)]
def Q0K.sem (k : Nat) : Qp := Qt Q0K.tin Q0K.tout fun x => Q0K k x.1
noncomputable def Q0K.ctx (k : Nat) : Ctx := ⟨Tryz.prog, gam [(102, (Q1.sem k))]⟩
theorem Q0K.gok (k : Nat) : ∀ f, Qh Tryz.prog f ((Q0K.ctx k).Γ f) := (Qf (Q1.sem_ok k) QO)
def Q0K.ann (k : Nat) : Ann := .nil
theorem Q0K.body (k : Nat) : Q0I (Q0K.ctx k) Tryz.f74 (Func.code Tryz.f74) (Q0K.ann k) Q0K.tin Q0K.tout (fun x K => Q0K.c k x.1 K) := by
 intro ρ x K; kernel_rfl
theorem Q0K.sem_ok (k : Nat) : Qh Tryz.prog 74 (Q0K.sem k) :=
 Qv (C := Q0K.ctx k) (Q0K.gok k) Tryz.mix (c := Func.code Tryz.f74) (ann := Q0K.ann k) (tin := Q0K.tin) (tout := Q0K.tout) (fun x K => Q0K.c k x.1 K) Tryz.func74 (by kernel_rfl) (by kernel_rfl) Q0.nil (Q0K.body k)
def Q0l.c (k : Nat) {ρ : Type} (b : QcZ) (K : Int × Unit → Option ρ) : Option ρ :=
 (Q04 k ((b.1.1, (b.1.2.1, (b.1.2.2.1, (b.1.2.2.2.1, (b.1.2.2.2.2.1, (b.1.2.2.2.2.2.1, ())))))), (b.2.1, ()))).bind fun t0 => bif (decide (t0.1 > (8192 : Int))) then (K ((110 : Int), ())) else (let v1 : Qd2 := b.2.1
 let v2 : Int := (((List.length v1) : Nat) : Int)
 bif (v2 == (0 : Int)) then (K ((160 : Int), ())) else (let v3 : Qd2 := b.2.1
 (Qx k v3).bind fun t4 => let v5 : (List Int) := t4.1
 let v6 : (List Int) := b.1.2.2.1
 bif (!(decide (v5 = v6))) then (K ((161 : Int), ())) else (bif t4.2.1 then (K ((162 : Int), ())) else (let v7 : Qd2 := b.2.1
 bif (decide (((0 : Int) ≤ (0 : Int)) ∧ ((0 : Int) < (((List.length v7) : Nat) : Int)))) then ((Q0T k ((List.getD v7 0 ((0 : Int), ([], ([], ((0 : Int), ()))))).1, ((List.getD v7 0 ((0 : Int), ([], ([], ((0 : Int), ()))))).2.1, ((List.getD v7 0 ((0 : Int), ([], ([], ((0 : Int), ()))))).2.2.1, ((List.getD v7 0 ((0 : Int), ([], ([], ((0 : Int), ()))))).2.2.2.1, ()))))).bind fun t8 => bif (!t8.1) then (K ((163 : Int), ())) else (let v9 : Qd2 := b.2.1
 bif (decide (((0 : Int) ≤ (1 : Int)) ∧ (((1 : Int) ≤ (((List.length v9) : Nat) : Int)) ∧ ((((List.length v9) : Nat) : Int) ≤ (((List.length v9) : Nat) : Int))))) then (let v10 : Qd2 := (List.drop 1 (List.take (Int.toNat (((List.length v9) : Nat) : Int)) v9))
 (Qc k v10 ()).bind fun t11 => bif t11.1 then (K ((164 : Int), ())) else ((Q0K k ((b.1.1, (b.1.2.1, (b.1.2.2.1, (b.1.2.2.2.1, (b.1.2.2.2.2.1, (b.1.2.2.2.2.2.1, ())))))), (b.2.1, ()))).bind fun t12 => bif (decide (t12.1 ≥ (0 : Int))) then (let v13 : Qd2 := b.2.1
 bif (decide (((0 : Int) ≤ t12.1) ∧ (t12.1 < (((List.length v13) : Nat) : Int)))) then ((QJ k ((List.getD v13 (Int.toNat t12.1) ((0 : Int), ([], ([], ((0 : Int), ()))))).1, ((List.getD v13 (Int.toNat t12.1) ((0 : Int), ([], ([], ((0 : Int), ()))))).2.1, ((List.getD v13 (Int.toNat t12.1) ((0 : Int), ([], ([], ((0 : Int), ()))))).2.2.1, ((List.getD v13 (Int.toNat t12.1) ((0 : Int), ([], ([], ((0 : Int), ()))))).2.2.2.1, ()))))).bind fun t14 => K (t14.1, ())) else (none)) else (K ((0 : Int), ())))) else (none))) else (none)))))
def Q0l (k : Nat) (b : QcZ) : Option (Int × Unit) := Q0l.c k b some
def Q0l.tin : List Ty := [QcX]
def Q0l.tout : List Ty := [(.int .i64)]
def Q0l.sem (k : Nat) : Qp := Qt Q0l.tin Q0l.tout fun x => Q0l k x.1
noncomputable def Q0l.ctx (k : Nat) : Ctx := ⟨Tryz.prog, gam [(72, (Q04.sem k)), (23, (Qx.sem k)), (50, (Q0T.sem k)), (73, (Qc.sem k)), (74, (Q0K.sem k)), (75, (QJ.sem k))]⟩
theorem Q0l.gok (k : Nat) : ∀ f, Qh Tryz.prog f ((Q0l.ctx k).Γ f) := (Qf (Q04.sem_ok k) (Qf (Qx.sem_ok k) (Qf (Q0T.sem_ok k) (Qf (Qc.sem_ok k) (Qf (Q0K.sem_ok k) (Qf (QJ.sem_ok k) QO))))))
def Q0l.ann (k : Nat) : Ann := .nil
theorem Q0l.body (k : Nat) : Q0I (Q0l.ctx k) Tryz.f39 (Func.code Tryz.f39) (Q0l.ann k) Q0l.tin Q0l.tout (fun x K => Q0l.c k x.1 K) := by
 intro ρ x K; kernel_rfl
theorem Q0l.sem_ok (k : Nat) : Qh Tryz.prog 39 (Q0l.sem k) :=
 Qv (C := Q0l.ctx k) (Q0l.gok k) Tryz.mix (c := Func.code Tryz.f39) (ann := Q0l.ann k) (tin := Q0l.tin) (tout := Q0l.tout) (fun x K => Q0l.c k x.1 K) Tryz.func39 (by kernel_rfl) (by kernel_rfl) Q0.nil (Q0l.body k)
end Go.Am
