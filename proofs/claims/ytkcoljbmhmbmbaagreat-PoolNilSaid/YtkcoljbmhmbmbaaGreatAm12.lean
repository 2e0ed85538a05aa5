/- A part of a proof: a machine of abstract values that tells what functions of the program compute, and the plain facts on them. -/
import Derived.Test.YtkcoljbmhmbmbaaGreatAm11
import Derived.KernelRfl
set_option linter.unusedVariables false
set_option linter.unusedSimpArgs false
set_option linter.unnecessarySimpa false
set_option linter.unusedSectionVars false
namespace Go.Am
abbrev QeS : Type := ((List Int) × (Int × Unit))
abbrev QeR : Type := (List (Int × (ByteArray × Unit)))
abbrev QeQ : Type := (ByteArray × (Int × (Int × Unit)))
abbrev QeP : Type := (List  QeS )
abbrev QeO : Type := ( QeP  × Unit)
abbrev QeN : Type := (Int ×  QeQ  × Unit)
abbrev QeM : Ty := (.pair (.arr 32 (.int .u8)) (.pair (.int .u32) .unit))
abbrev QeL : Ty := (.pair .str (.pair (.int .i64) (.pair (.int .i64) .unit)))
abbrev QeK : Type := (List ( QeS  × (ByteArray × (Int × Unit))))
abbrev QeJ : Ty := (.sl (.pair  QeM  (.pair .str (.pair (.int .u32) .unit))))
abbrev QeI : Type := (Int × ( QeK  × ( QeR  × (Int × Unit))))
abbrev QeH : Type := (List  QeI )
abbrev QeG : Type := ( QeI  × Unit)
abbrev QeF : Ty := (.pair (.int .u32) (.pair  QeJ  (.pair (.sl (.pair (.int .u64) (.pair .str .unit))) (.pair (.int .u32) .unit))))
abbrev QeE : Type := ((Int × ((List Int) × ((List Int) × (Int × (Int × (Int × Unit)))))) × ( QeH  × Unit))
abbrev QeD : Ty := (.sl  QeF )
abbrev QeC : Ty := (.pair (.pair (.int .u32) (.pair (.arr 32 (.int .u8)) (.pair (.arr 32 (.int .u8)) (.pair (.int .u32) (.pair (.int .u32) (.pair (.int .u32) .unit)))))) (.pair  QeD  .unit))
end Go.Am
namespace Go.Am
open Go Go.Proofs
set_option maxRecDepth 100000
abbrev Q0m.l0.σ : Type := Int × Int × (List Int) × QeP × Unit
abbrev Q0m.l0.τ : Type := QeO 
def Q0m.l0.r (k : Nat) {ρ : Type} (x : Q0m.l0.σ) (kn : Q0m.l0.σ → Option ρ) (ke : Q0m.l0.τ → Option ρ) : Option ρ :=
 bif (decide (x.2.1 < x.1)) then (let v2 : (List Int) := x.2.2.1
 let v3 : Int := (IntKind.wrap IntKind.u32 x.2.1)
 bif (Nat.ble (((List.length x.2.2.2.1) + (List.length (List.set (List.replicate 1 ((List.replicate 32 (0 : Int)), ((0 : Int), ()))) 0 (v2, (v3, ()))))) * 36) 140737488355328) then (let v4 : Int := (IntKind.wrap IntKind.i64 (x.2.1 + (1 : Int)))
 kn (x.1, (v4, (x.2.2.1, ((x.2.2.2.1 ++ (List.set (List.replicate 1 ((List.replicate 32 (0 : Int)), ((0 : Int), ()))) 0 (v2, (v3, ())))), ()))))) else (none)) else (ke (x.2.2.2.1, ()))
def Q0m.l0 (k : Nat) : Nat → Q0m.l0.σ → Option Q0m.l0.τ := Q15 (Q0m.l0.r k)
def Q0m.l0.T : StT := ⟨us 2 ++ .ptr 0 [] :: us 2 ++ .vsl 1 :: us 3 ++ .dat (.int .i64) :: .dat (.int .i64) :: us 11, [.dat (.arr 32 (.int .u8)), .vec QeM]⟩
def Q0m.l0.os : List Out := [⟨(.exit 0), [.mask [5], .auto 0], ⟨us 5 ++ .vsl 0 :: us 16, [.vec QeM]⟩⟩]
def Q0m.c (k : Nat) {ρ : Type} (id : (List Int)) (t : QeI) (K : QeP × Unit → Option ρ) : Option ρ :=
 let v0 : QeR := t.2.2.1
 let v1 : Int := (((List.length v0) : Nat) : Int)
 (Q0m.l0 k k (v1, ((0 : Int), (id, ([], ()))))).bind fun t5 => K (t5.1, ())
def Q0m (k : Nat) (id : (List Int)) (t : QeI) : Option QeO := Q0m.c k id t some
def Q0m.tin : List Ty := [(.arr 32 (.int .u8)), QeF]
def Q0m.tout : List Ty := [(.sl QeM)]
def Q0m.sem (k : Nat) : Qj := Qn Q0m.tin Q0m.tout fun x => Q0m k x.1 x.2.1
noncomputable def Q0m.ctx (k : Nat) : Ctx := ⟨Tryz.prog, gam []⟩
theorem Q0m.gok (k : Nat) : ∀ f, Qb Tryz.prog f ((Q0m.ctx k).Γ f) := QE
theorem Q0m.l0.round (k : Nat) : Q0V (Q0m.ctx k) (Q0e (Func.code Tryz.f44) [1, 1, 0, 1, 0, 0]) (.nil) Q0m.l0.T [.mask [2, 5, 9, 10], .auto 0] Q0m.l0.os (Q0m.l0.r k) := by
 intro ρ x kn ke; kernel_rfl
theorem Q0m.l0.ok (k : Nat) : StOK 0 Tryz.prog (.loop (Q0e (Func.code Tryz.f44) [1, 1, 0, 1, 0, 0])) (Qv Q0m.l0.T Q0m.l0.os (Q0m.l0 k k)) :=
 Q0X (C := Q0m.ctx k) (Q0m.gok k) Tryz.mix Q3.nil (by kernel_rfl) (by kernel_rfl) (by kernel_rfl) (Q0m.l0.round k) k
def Q0m.ann (k : Nat) : Ann := .node [] none (.nil) (.node [] none (.nil) (.node [] none (.node [] none (.nil) (.node [] none (.node [.mask [2, 5, 9, 10], .auto 0, .own (.slot 5) QeM] (some (Qv Q0m.l0.T Q0m.l0.os (Q0m.l0 k k))) .nil .nil) (.nil))) (.nil)))
theorem Q0m.body (k : Nat) : Q0M (Q0m.ctx k) Tryz.f44 (Func.code Tryz.f44) (Q0m.ann k) Q0m.tin Q0m.tout (fun x K => Q0m.c k x.1 x.2.1 K) := by
 intro ρ x K; kernel_rfl
theorem Q0m.sem_ok (k : Nat) : Qb Tryz.prog 44 (Q0m.sem k) :=
 Qs (C := Q0m.ctx k) (Q0m.gok k) Tryz.mix (c := Func.code Tryz.f44) (ann := Q0m.ann k) (tin := Q0m.tin) (tout := Q0m.tout) (fun x K => Q0m.c k x.1 x.2.1 K) Tryz.func44 (by kernel_rfl) (by kernel_rfl) (Q3.seq Q3.nil (Q3.seq Q3.nil (Q3.seq (Q3.seq Q3.nil (Q3.block (Q3.loop (by kernel_rfl) (Q0m.l0.ok k)))) Q3.nil))) (Q0m.body k)
end Go.Am
namespace Go.Am
open Go Go.Proofs
set_option maxRecDepth 100000
abbrev Qm.p0.σ : Type := Int × Int × QeI × Unit
abbrev Qm.p0.τ : Type := (Int × QeI × Unit)
def Qm.p0.r (k : Nat) {ρ : Type} (x : Qm.p0.σ) (K : Qm.p0.τ → Option ρ) : Option ρ :=
 let v1 : Int := x.2.2.1.2.2.2.1
 bif (decide (v1 ≥ (500000000 : Int))) then (let v2 : Int := (IntKind.wrap IntKind.u64 x.1)
 K (v2, ((x.2.2.1.1, (x.2.2.1.2.1, (x.2.2.1.2.2.1, (x.2.2.1.2.2.2.1, ())))), ()))) else (K (x.2.1, ((x.2.2.1.1, (x.2.2.1.2.1, (x.2.2.1.2.2.1, (x.2.2.1.2.2.2.1, ())))), ())))
def Qm.p0 (k : Nat) (x : Qm.p0.σ) : Option Qm.p0.τ := Qm.p0.r k x some
def Qm.p0.T : StT := ⟨us 2 ++ .dat (.int .u32) :: .ptr 0 [] :: us 3 ++ .dat (.int .u64) :: us 31, [.dat QeF]⟩
def Qm.p0.os : List Out := [⟨.normal, [.mask [3, 7], .auto 0], ⟨us 3 ++ .ptr 0 [] :: us 3 ++ .dat (.int .u64) :: us 31, [.dat QeF]⟩⟩]
abbrev Qm.p1.σ : Type := Int × QeI × Unit
abbrev Qm.p1.τ : Type := (Bool × Unit) ⊕ QeG 
def Qm.p1.r (k : Nat) {ρ : Type} (x : Qm.p1.σ) (K : Qm.p1.τ → Option ρ) : Option ρ :=
 let v4 : Int := x.2.1.2.2.2.1
 bif (v4 == (0 : Int)) then (K (.inl (true, ()))) else (let v5 : Int := x.2.1.2.2.2.1
 bif (decide ((IntKind.wrap IntKind.u64 v5) < x.1)) then (K (.inl (true, ()))) else (K (.inr ((x.2.1.1, (x.2.1.2.1, (x.2.1.2.2.1, (x.2.1.2.2.2.1, ())))), ()))))
def Qm.p1 (k : Nat) (x : Qm.p1.σ) : Option Qm.p1.τ := Qm.p1.r k x some
def Qm.p1.T : StT := ⟨us 3 ++ .ptr 0 [] :: us 3 ++ .dat (.int .u64) :: us 31, [.dat QeF]⟩
def Qm.p1.os : List Out := [⟨.ret, [.mask [6], .auto 0], ⟨us 6 ++ .dat .bool :: us 32, []⟩⟩, ⟨.normal, [.mask [3], .auto 0], ⟨us 3 ++ .ptr 0 [] :: us 35, [.dat QeF]⟩⟩]
abbrev Qm.l2.σ : Type := QeK × Int × Int × Unit
abbrev Qm.l2.τ : Type := (Bool × Unit) ⊕ (Unit)
def Qm.l2.r (k : Nat) {ρ : Type} (x : Qm.l2.σ) (kn : Qm.l2.σ → Option ρ) (ke : Qm.l2.τ → Option ρ) : Option ρ :=
 bif (decide (x.2.2.1 < x.2.1)) then (bif (decide (((0 : Int) ≤ x.2.2.1) ∧ (x.2.2.1 < (((List.length x.1) : Nat) : Int)))) then (let v11 : Int := (List.getD x.1 (Int.toNat x.2.2.1) (((List.replicate 32 (0 : Int)), ((0 : Int), ())), (ByteArray.empty, ((0 : Int), ())))).2.2.1
 bif (v11 != (4294967295 : Int)) then (ke (.inl (false, ()))) else (let v12 : Int := (IntKind.wrap IntKind.i64 (x.2.2.1 + (1 : Int)))
 kn (x.1, (x.2.1, (v12, ()))))) else (none)) else (ke (.inr ()))
def Qm.l2 (k : Nat) : Nat → Qm.l2.σ → Option Qm.l2.τ := Q15 (Qm.l2.r k)
def Qm.l2.T : StT := ⟨us 29 ++ .dat QeJ :: .dat (.int .i64) :: .dat (.int .i64) :: us 7, []⟩
def Qm.l2.os : List Out := [⟨.ret, [.mask [6], .auto 0], ⟨us 6 ++ .dat .bool :: us 32, []⟩⟩, ⟨(.exit 0), [.mask [], .auto 0], ⟨us 39, []⟩⟩]
def Qm.c (k : Nat) {ρ : Type} (t : QeI) (height : Int) (time : Int) (K : Bool × Unit → Option ρ) : Option ρ :=
  let v0 : Int := (if ((0 : Int) > height) then (0 : Int) else height)
  (Qm.p0 k (time, ((IntKind.wrap IntKind.u64 v0), ((t.1, (t.2.1, (t.2.2.1, (t.2.2.2.1, ())))), ())))).bind fun t3 => (Qm.p1 k (t3.1, ((t3.2.1.1, (t3.2.1.2.1, (t3.2.1.2.2.1, (t3.2.1.2.2.2.1, ())))), ()))).bind fun t6 => (match t6 with
 | .inl t7 => (K (t7.1, ()))
 | .inr (t8) => (let v9 : QeK := t8.1.2.1
  let v10 : Int := (((List.length v9) : Nat) : Int)
  (Qm.l2 k k (v9, (v10, ((0 : Int), ())))).bind fun t13 => (match t13 with
 | .inl t14 => (K (t14.1, ()))
 | .inr (t15) => (K (true, ())))))
def Qm (k : Nat) (t : QeI) (height : Int) (time : Int) : Option (Bool × Unit) := Qm.c k t height time some
def Qm.tin : List Ty := [QeF, (.int .i64), (.int .u32)]
def Qm.tout : List Ty := [.bool]
def Qm.sem (k : Nat) : Qj := Qn Qm.tin Qm.tout fun x => Qm k x.1 x.2.1 x.2.2.1
noncomputable def Qm.ctx (k : Nat) : Ctx := ⟨Tryz.prog, gam []⟩
theorem Qm.gok (k : Nat) : ∀ f, Qb Tryz.prog f ((Qm.ctx k).Γ f) := QE
theorem Qm.l2.round (k : Nat) : Q0V (Qm.ctx k) (Q0e (Func.code Tryz.f80) [1, 1, 1, 1, 0, 1, 0, 0]) (.nil) Qm.l2.T [.mask [29, 30, 31], .auto 0] Qm.l2.os (Qm.l2.r k) := by
 intro ρ x kn ke; kernel_rfl
theorem Qm.l2.ok (k : Nat) : StOK 0 Tryz.prog (.loop (Q0e (Func.code Tryz.f80) [1, 1, 1, 1, 0, 1, 0, 0])) (Qv Qm.l2.T Qm.l2.os (Qm.l2 k k)) :=
 Q0X (C := Qm.ctx k) (Qm.gok k) Tryz.mix Q3.nil (by kernel_rfl) (by kernel_rfl) (by kernel_rfl) (Qm.l2.round k) k
theorem Qm.p1.is (k : Nat) : Q45 (Qm.ctx k) (Q0e (Func.code Tryz.f80) [1, 1, 1, 0]) (.nil) Qm.p1.T Qm.p1.os (Qm.p1.r k) := by
 intro ρ x K; kernel_rfl
theorem Qm.p1.ok (k : Nat) : StOK 0 Tryz.prog (Q0e (Func.code Tryz.f80) [1, 1, 1, 0]) (Qv Qm.p1.T Qm.p1.os (Qm.p1 k)) :=
 Q3Z (C := Qm.ctx k) (T := Qm.p1.T) (os := Qm.p1.os) (Qm.gok k) Tryz.mix (fun x K => Qm.p1.r k x K) Q3.nil (by kernel_rfl) (by kernel_rfl) (Qm.p1.is k)
theorem Qm.p0.is (k : Nat) : Q45 (Qm.ctx k) (Q0e (Func.code Tryz.f80) [1, 1, 0]) (.nil) Qm.p0.T Qm.p0.os (Qm.p0.r k) := by
 intro ρ x K; kernel_rfl
theorem Qm.p0.ok (k : Nat) : StOK 0 Tryz.prog (Q0e (Func.code Tryz.f80) [1, 1, 0]) (Qv Qm.p0.T Qm.p0.os (Qm.p0 k)) :=
 Q3Z (C := Qm.ctx k) (T := Qm.p0.T) (os := Qm.p0.os) (Qm.gok k) Tryz.mix (fun x K => Qm.p0.r k x K) Q3.nil (by kernel_rfl) (by kernel_rfl) (Qm.p0.is k)
def Qm.ann (k : Nat) : Ann := .node [] none (.nil) (.node [] none (.nil) (.node [] none (.node [.mask [2, 3, 7], .auto 0] (some (Qv Qm.p0.T Qm.p0.os (Qm.p0 k))) .nil .nil) (.node [] none (.node [.mask [3, 7], .auto 0] (some (Qv Qm.p1.T Qm.p1.os (Qm.p1 k))) .nil .nil) (.node [] none (.node [] none (.nil) (.node [] none (.node [.mask [29, 30, 31], .auto 0] (some (Qv Qm.l2.T Qm.l2.os (Qm.l2 k k))) .nil .nil) (.nil))) (.nil)))))
theorem Qm.body (k : Nat) : Q0M (Qm.ctx k) Tryz.f80 (Func.code Tryz.f80) (Qm.ann k) Qm.tin Qm.tout (fun x K => Qm.c k x.1 x.2.1 x.2.2.1 K) := by
 intro ρ x K; kernel_rfl
theorem Qm.sem_ok (k : Nat) : Qb Tryz.prog 80 (Qm.sem k) :=
 Qs (C := Qm.ctx k) (Qm.gok k) Tryz.mix (c := Func.code Tryz.f80) (ann := Qm.ann k) (tin := Qm.tin) (tout := Qm.tout) (fun x K => Qm.c k x.1 x.2.1 x.2.2.1 K) Tryz.func80 (by kernel_rfl) (by kernel_rfl) (Q3.seq Q3.nil (Q3.seq Q3.nil (Q3.seq (Q3.loop (by kernel_rfl) (Qm.p0.ok k)) (Q3.seq (Q3.loop (by kernel_rfl) (Qm.p1.ok k)) (Q3.seq (Q3.seq Q3.nil (Q3.block (Q3.loop (by kernel_rfl) (Qm.l2.ok k)))) Q3.nil))))) (Qm.body k)
end Go.Am
namespace Go.Am
open Go Go.Proofs
set_option maxRecDepth 100000
def Q13.c (k : Nat) {ρ : Type}  (K : QeS × Unit → Option ρ) : Option ρ :=
 K (((List.replicate 32 (0 : Int)), ((4294967295 : Int), ())), ())
def Q13 (k : Nat)  : Option (QeS × Unit) := Q13.c k  some
def Q13.tin : List Ty := []
def Q13.tout : List Ty := [QeM]
def Q13.sem (k : Nat) : Qj := Qn Q13.tin Q13.tout fun x => Q13 k 
noncomputable def Q13.ctx (k : Nat) : Ctx := ⟨Tryz.prog, gam []⟩
theorem Q13.gok (k : Nat) : ∀ f, Qb Tryz.prog f ((Q13.ctx k).Γ f) := QE
def Q13.ann (k : Nat) : Ann := .nil
theorem Q13.body (k : Nat) : Q0M (Q13.ctx k) Tryz.f77 (Func.code Tryz.f77) (Q13.ann k) Q13.tin Q13.tout (fun x K => Q13.c k  K) := by
 intro ρ x K; kernel_rfl
theorem Q13.sem_ok (k : Nat) : Qb Tryz.prog 77 (Q13.sem k) :=
 Qs (C := Q13.ctx k) (Q13.gok k) Tryz.mix (c := Func.code Tryz.f77) (ann := Q13.ann k) (tin := Q13.tin) (tout := Q13.tout) (fun x K => Q13.c k  K) Tryz.func77 (by kernel_rfl) (by kernel_rfl) Q3.nil (Q13.body k)
def Q0W.c (k : Nat) {ρ : Type} (t : QeI) (K : Bool × Unit → Option ρ) : Option ρ :=
 let v0 : QeK := t.2.1
 let v1 : Int := (((List.length v0) : Nat) : Int)
 bif (v1 == (1 : Int)) then (let v2 : QeK := t.2.1
 bif (decide (((0 : Int) ≤ (0 : Int)) ∧ ((0 : Int) < (((List.length v2) : Nat) : Int)))) then ((Q13 k ).bind fun t3 => K (((decide ((List.getD v2 0 (((List.replicate 32 (0 : Int)), ((0 : Int), ())), (ByteArray.empty, ((0 : Int), ())))).1.1 = t3.1.1)) && (((List.getD v2 0 (((List.replicate 32 (0 : Int)), ((0 : Int), ())), (ByteArray.empty, ((0 : Int), ())))).1.2.1 == t3.1.2.1) && true)), ())) else (none)) else (K (false, ()))
def Q0W (k : Nat) (t : QeI) : Option (Bool × Unit) := Q0W.c k t some
def Q0W.tin : List Ty := [QeF]
def Q0W.tout : List Ty := [.bool]
def Q0W.sem (k : Nat) : Qj := Qn Q0W.tin Q0W.tout fun x => Q0W k x.1
noncomputable def Q0W.ctx (k : Nat) : Ctx := ⟨Tryz.prog, gam [(77, (Q13.sem k))]⟩
theorem Q0W.gok (k : Nat) : ∀ f, Qb Tryz.prog f ((Q0W.ctx k).Γ f) := (Q7 (Q13.sem_ok k) QE)
def Q0W.ann (k : Nat) : Ann := .nil
theorem Q0W.body (k : Nat) : Q0M (Q0W.ctx k) Tryz.f43 (Func.code Tryz.f43) (Q0W.ann k) Q0W.tin Q0W.tout (fun x K => Q0W.c k x.1 K) := by
 intro ρ x K; kernel_rfl
theorem Q0W.sem_ok (k : Nat) : Qb Tryz.prog 43 (Q0W.sem k) :=
 Qs (C := Q0W.ctx k) (Q0W.gok k) Tryz.mix (c := Func.code Tryz.f43) (ann := Q0W.ann k) (tin := Q0W.tin) (tout := Q0W.tout) (fun x K => Q0W.c k x.1 K) Tryz.func43 (by kernel_rfl) (by kernel_rfl) Q3.nil (Q0W.body k)
end Go.Am
namespace Go.Am
open Go Go.Proofs
set_option maxRecDepth 100000
abbrev Q0w.l0.σ : Type := Int × QeR × Int × Int × Unit
abbrev Q0w.l0.τ : Type := (Int × Int × Unit) ⊕ (Int × Unit)
def Q0w.l0.r (k : Nat) {ρ : Type} (x : Q0w.l0.σ) (kn : Q0w.l0.σ → Option ρ) (ke : Q0w.l0.τ → Option ρ) : Option ρ :=
 bif (decide (x.2.2.2.1 < x.2.2.1)) then (bif (decide (((0 : Int) ≤ x.2.2.2.1) ∧ (x.2.2.2.1 < (((List.length x.2.1) : Nat) : Int)))) then (let v2 : Int := (List.getD x.2.1 (Int.toNat x.2.2.2.1) ((0 : Int), (ByteArray.empty, ()))).1
 bif (decide (v2 > (1000000 : Int))) then (ke (.inl ((0 : Int), ((103 : Int), ())))) else (let v3 : Int := (List.getD x.2.1 (Int.toNat x.2.2.2.1) ((0 : Int), (ByteArray.empty, ()))).1
 let v4 : Int := (IntKind.wrap IntKind.u64 (x.1 + v3))
 bif (decide (v4 > (1000000 : Int))) then (ke (.inl ((0 : Int), ((103 : Int), ())))) else (let v5 : Int := (List.getD x.2.1 (Int.toNat x.2.2.2.1) ((0 : Int), (ByteArray.empty, ()))).1
 let v6 : Int := (IntKind.wrap IntKind.u64 (x.1 + v5))
 let v7 : Int := (IntKind.wrap IntKind.i64 (x.2.2.2.1 + (1 : Int)))
 kn (v6, (x.2.1, (x.2.2.1, (v7, ()))))))) else (none)) else (ke (.inr (x.1, ())))
def Q0w.l0 (k : Nat) : Nat → Q0w.l0.σ → Option Q0w.l0.τ := Q15 (Q0w.l0.r k)
def Q0w.l0.T : StT := ⟨us 4 ++ .dat (.int .u64) :: us 3 ++ .dat (.sl (.pair (.int .u64) (.pair .str .unit))) :: .dat (.int .i64) :: .dat (.int .i64) :: us 19, []⟩
def Q0w.l0.os : List Out := [⟨.ret, [.mask [2, 3], .auto 0], ⟨us 2 ++ .dat (.int .u64) :: .dat (.int .i64) :: us 26, []⟩⟩, ⟨(.exit 0), [.mask [4], .auto 0], ⟨us 4 ++ .dat (.int .u64) :: us 25, []⟩⟩]
def Q0w.c (k : Nat) {ρ : Type} (t : QeI) (K : Int × Int × Unit → Option ρ) : Option ρ :=
  let v0 : QeR := t.2.2.1
  let v1 : Int := (((List.length v0) : Nat) : Int)
  (Q0w.l0 k k ((0 : Int), (v0, (v1, ((0 : Int), ()))))).bind fun t8 => (match t8 with
 | .inl t9 => (K (t9.1, (t9.2.1, ())))
 | .inr (t10) => (K (t10.1, ((0 : Int), ()))))
def Q0w (k : Nat) (t : QeI) : Option (Int × Int × Unit) := Q0w.c k t some
def Q0w.tin : List Ty := [QeF]
def Q0w.tout : List Ty := [(.int .u64), (.int .i64)]
def Q0w.sem (k : Nat) : Qj := Qn Q0w.tin Q0w.tout fun x => Q0w k x.1
noncomputable def Q0w.ctx (k : Nat) : Ctx := ⟨Tryz.prog, gam []⟩
theorem Q0w.gok (k : Nat) : ∀ f, Qb Tryz.prog f ((Q0w.ctx k).Γ f) := QE
theorem Q0w.l0.round (k : Nat) : Q0V (Q0w.ctx k) (Q0e (Func.code Tryz.f79) [1, 1, 0, 1, 0, 0]) (.nil) Q0w.l0.T [.mask [4, 8, 9, 10], .auto 0] Q0w.l0.os (Q0w.l0.r k) := by
 intro ρ x kn ke; kernel_rfl
theorem Q0w.l0.ok (k : Nat) : StOK 0 Tryz.prog (.loop (Q0e (Func.code Tryz.f79) [1, 1, 0, 1, 0, 0])) (Qv Q0w.l0.T Q0w.l0.os (Q0w.l0 k k)) :=
 Q0X (C := Q0w.ctx k) (Q0w.gok k) Tryz.mix Q3.nil (by kernel_rfl) (by kernel_rfl) (by kernel_rfl) (Q0w.l0.round k) k
def Q0w.ann (k : Nat) : Ann := .node [] none (.nil) (.node [] none (.nil) (.node [] none (.node [] none (.nil) (.node [] none (.node [.mask [4, 8, 9, 10], .auto 0] (some (Qv Q0w.l0.T Q0w.l0.os (Q0w.l0 k k))) .nil .nil) (.nil))) (.nil)))
theorem Q0w.body (k : Nat) : Q0M (Q0w.ctx k) Tryz.f79 (Func.code Tryz.f79) (Q0w.ann k) Q0w.tin Q0w.tout (fun x K => Q0w.c k x.1 K) := by
 intro ρ x K; kernel_rfl
theorem Q0w.sem_ok (k : Nat) : Qb Tryz.prog 79 (Q0w.sem k) :=
 Qs (C := Q0w.ctx k) (Q0w.gok k) Tryz.mix (c := Func.code Tryz.f79) (ann := Q0w.ann k) (tin := Q0w.tin) (tout := Q0w.tout) (fun x K => Q0w.c k x.1 K) Tryz.func79 (by kernel_rfl) (by kernel_rfl) (Q3.seq Q3.nil (Q3.seq Q3.nil (Q3.seq (Q3.seq Q3.nil (Q3.block (Q3.loop (by kernel_rfl) (Q0w.l0.ok k)))) Q3.nil))) (Q0w.body k)
end Go.Am
namespace Go.Am
open Go Go.Proofs
set_option maxRecDepth 100000
def Q0y.c (k : Nat) {ρ : Type} (height : Int) (K : Int × Unit → Option ρ) : Option ρ :=
 bif (decide (height < (0 : Int))) then (K ((0 : Int), ())) else (let v0 : Int := (IntKind.wrap IntKind.i64 (Int.tdiv height (64 : Int)))
 bif (decide ((0 : Int) ≤ v0)) then (let v1 : Int := (Q2H IntKind.u64 (5000 : Int) v0)
 K (v1, ())) else (none))
def Q0y (k : Nat) (height : Int) : Option (Int × Unit) := Q0y.c k height some
def Q0y.tin : List Ty := [(.int .i64)]
def Q0y.tout : List Ty := [(.int .u64)]
def Q0y.sem (k : Nat) : Qj := Qn Q0y.tin Q0y.tout fun x => Q0y k x.1
noncomputable def Q0y.ctx (k : Nat) : Ctx := ⟨Tryz.prog, gam []⟩
theorem Q0y.gok (k : Nat) : ∀ f, Qb Tryz.prog f ((Q0y.ctx k).Γ f) := QE
def Q0y.ann (k : Nat) : Ann := .nil
theorem Q0y.body (k : Nat) : Q0M (Q0y.ctx k) Tryz.f140 (Func.code Tryz.f140) (Q0y.ann k) Q0y.tin Q0y.tout (fun x K => Q0y.c k x.1 K) := by
 intro ρ x K; kernel_rfl
theorem Q0y.sem_ok (k : Nat) : Qb Tryz.prog 140 (Q0y.sem k) :=
 Qs (C := Q0y.ctx k) (Q0y.gok k) Tryz.mix (c := Func.code Tryz.f140) (ann := Q0y.ann k) (tin := Q0y.tin) (tout := Q0y.tout) (fun x K => Q0y.c k x.1 K) Tryz.func140 (by kernel_rfl) (by kernel_rfl) Q3.nil (Q0y.body k)
end Go.Am
namespace Go.Am
open Go Go.Proofs
set_option maxRecDepth 100000
def Q0d.c (k : Nat) {ρ : Type} (t : QeI) (K : Bool × Unit → Option ρ) : Option ρ :=
 let v0 : QeK := t.2.1
 let v1 : Int := (((List.length v0) : Nat) : Int)
 bif (v1 == (1 : Int)) then (let v2 : QeK := t.2.1
 bif (decide (((0 : Int) ≤ (0 : Int)) ∧ ((0 : Int) < (((List.length v2) : Nat) : Int)))) then (K (((decide ((List.getD v2 0 (((List.replicate 32 (0 : Int)), ((0 : Int), ())), (ByteArray.empty, ((0 : Int), ())))).1.1 = (List.replicate 32 (0 : Int)))) && (((List.getD v2 0 (((List.replicate 32 (0 : Int)), ((0 : Int), ())), (ByteArray.empty, ((0 : Int), ())))).1.2.1 == (4294967295 : Int)) && true)), ())) else (none)) else (K (false, ()))
def Q0d (k : Nat) (t : QeI) : Option (Bool × Unit) := Q0d.c k t some
def Q0d.tin : List Ty := [QeF]
def Q0d.tout : List Ty := [.bool]
def Q0d.sem (k : Nat) : Qj := Qn Q0d.tin Q0d.tout fun x => Q0d k x.1
noncomputable def Q0d.ctx (k : Nat) : Ctx := ⟨Tryz.prog, gam []⟩
theorem Q0d.gok (k : Nat) : ∀ f, Qb Tryz.prog f ((Q0d.ctx k).Γ f) := QE
def Q0d.ann (k : Nat) : Ann := .nil
theorem Q0d.body (k : Nat) : Q0M (Q0d.ctx k) Tryz.f163 (Func.code Tryz.f163) (Q0d.ann k) Q0d.tin Q0d.tout (fun x K => Q0d.c k x.1 K) := by
 intro ρ x K; kernel_rfl
theorem Q0d.sem_ok (k : Nat) : Qb Tryz.prog 163 (Q0d.sem k) :=
 Qs (C := Q0d.ctx k) (Q0d.gok k) Tryz.mix (c := Func.code Tryz.f163) (ann := Q0d.ann k) (tin := Q0d.tin) (tout := Q0d.tout) (fun x K => Q0d.c k x.1 K) Tryz.func163 (by kernel_rfl) (by kernel_rfl) Q3.nil (Q0d.body k)
abbrev Q0k.τ : Type := (QeQ × Unit)
def Q0k.c (k : Nat) {ρ : Type} (s : ByteArray) (K : Q0k.τ → Option ρ) : Option ρ :=
 K ((s, ((0 : Int), ((0 : Int), ()))), ())
def Q0k (k : Nat) (s : ByteArray) : Option Q0k.τ := Q0k.c k s some
def Q0k.T : Q19 := ⟨[.dat .str], [], 0⟩
def Q0k.os : List Out := [⟨.ret, [.auto 0], ⟨[.ptr 0 []], [.dat QeL]⟩⟩]
def Q0k.sem (k : Nat) : Qj := Q1g Q0k.T Q0k.os fun x => Q0k k x.1
noncomputable def Q0k.ctx (k : Nat) : Ctx := ⟨Tryz.prog, gam []⟩
theorem Q0k.gok (k : Nat) : ∀ f, Qb Tryz.prog f ((Q0k.ctx k).Γ f) := QE
def Q0k.ann (k : Nat) : Ann := .nil
theorem Q0k.body (k : Nat) : Q1l (Q0k.ctx k) Tryz.f164 (Func.code Tryz.f164) (Q0k.ann k) Q0k.T Q0k.os (fun x K => Q0k.c k x.1 K) := by
 intro ρ x K; kernel_rfl
theorem Q0k.sem_ok (k : Nat) : Qb Tryz.prog 164 (Q0k.sem k) :=
 Q0P (C := Q0k.ctx k) (Q0k.gok k) Tryz.mix (c := Func.code Tryz.f164) (ann := Q0k.ann k) (T := Q0k.T) (os := Q0k.os) (fun x K => Q0k.c k x.1 K) Tryz.func164 (by kernel_rfl) (by kernel_rfl) Q3.nil (Q0k.body k) (by kernel_rfl) (by kernel_rfl) (by kernel_rfl)
abbrev Q05.τ : Type := QeN 
def Q05.c (k : Nat) {ρ : Type} (b0 : QeQ) (K : Q05.τ → Option ρ) : Option ρ :=
 let v0 : Int := b0.2.2.1
 K (v0, ((b0.1, (b0.2.1, (b0.2.2.1, ()))), ()))
def Q05 (k : Nat) (b0 : QeQ) : Option Q05.τ := Q05.c k b0 some
def Q05.T : Q19 := ⟨[.ptr 0 []], [.dat QeL], 1⟩
def Q05.os : List Out := [⟨.ret, [.freeze (.slot 0), .auto 1], ⟨[.dat (.int .i64)], [.dat QeL]⟩⟩]
def Q05.sem (k : Nat) : Qj := Q1g Q05.T Q05.os fun x => Q05 k x.1
noncomputable def Q05.ctx (k : Nat) : Ctx := ⟨Tryz.prog, gam []⟩
theorem Q05.gok (k : Nat) : ∀ f, Qb Tryz.prog f ((Q05.ctx k).Γ f) := QE
def Q05.ann (k : Nat) : Ann := .nil
theorem Q05.body (k : Nat) : Q1l (Q05.ctx k) Tryz.f166 (Func.code Tryz.f166) (Q05.ann k) Q05.T Q05.os (fun x K => Q05.c k x.1 K) := by
 intro ρ x K; kernel_rfl
theorem Q05.sem_ok (k : Nat) : Qb Tryz.prog 166 (Q05.sem k) :=
 Q0P (C := Q05.ctx k) (Q05.gok k) Tryz.mix (c := Func.code Tryz.f166) (ann := Q05.ann k) (T := Q05.T) (os := Q05.os) (fun x K => Q05.c k x.1 K) Tryz.func166 (by kernel_rfl) (by kernel_rfl) Q3.nil (Q05.body k) (by kernel_rfl) (by kernel_rfl) (by kernel_rfl)
abbrev Q08.τ : Type := QeN 
def Q08.c (k : Nat) {ρ : Type} (b0 : QeQ) (K : Q08.τ → Option ρ) : Option ρ :=
 let v0 : ByteArray := b0.1
 let v1 : Int := b0.2.1
 let v2 : Int := (IntKind.wrap IntKind.i64 ((((ByteArray.size v0) : Nat) : Int) - v1))
 K (v2, ((b0.1, (b0.2.1, (b0.2.2.1, ()))), ()))
def Q08 (k : Nat) (b0 : QeQ) : Option Q08.τ := Q08.c k b0 some
def Q08.T : Q19 := ⟨[.ptr 0 []], [.dat QeL], 1⟩
def Q08.os : List Out := [⟨.ret, [.freeze (.slot 0), .auto 1], ⟨[.dat (.int .i64)], [.dat QeL]⟩⟩]
def Q08.sem (k : Nat) : Qj := Q1g Q08.T Q08.os fun x => Q08 k x.1
noncomputable def Q08.ctx (k : Nat) : Ctx := ⟨Tryz.prog, gam []⟩
theorem Q08.gok (k : Nat) : ∀ f, Qb Tryz.prog f ((Q08.ctx k).Γ f) := QE
def Q08.ann (k : Nat) : Ann := .nil
theorem Q08.body (k : Nat) : Q1l (Q08.ctx k) Tryz.f188 (Func.code Tryz.f188) (Q08.ann k) Q08.T Q08.os (fun x K => Q08.c k x.1 K) := by
 intro ρ x K; kernel_rfl
theorem Q08.sem_ok (k : Nat) : Qb Tryz.prog 188 (Q08.sem k) :=
 Q0P (C := Q08.ctx k) (Q08.gok k) Tryz.mix (c := Func.code Tryz.f188) (ann := Q08.ann k) (T := Q08.T) (os := Q08.os) (fun x K => Q08.c k x.1 K) Tryz.func188 (by kernel_rfl) (by kernel_rfl) Q3.nil (Q08.body k) (by kernel_rfl) (by kernel_rfl) (by kernel_rfl)
abbrev QY.τ : Type := (ByteArray × QeQ × Unit)
def QY.c (k : Nat) {ρ : Type} (n : Int) (b0 : QeQ) (K : QY.τ → Option ρ) : Option ρ :=
 (Q05 k (b0.1, (b0.2.1, (b0.2.2.1, ())))).bind fun t0 => bif (t0.1 != (0 : Int)) then (K ((⟨(List.toArray [])⟩ : ByteArray), ((t0.2.1.1, (t0.2.1.2.1, (t0.2.1.2.2.1, ()))), ()))) else (bif (decide (n < (0 : Int))) then (K ((⟨(List.toArray [])⟩ : ByteArray), ((t0.2.1.1, (t0.2.1.2.1, ((1 : Int), ()))), ()))) else ((Q08 k (t0.2.1.1, (t0.2.1.2.1, (t0.2.1.2.2.1, ())))).bind fun t1 => bif (decide (n > t1.1)) then (K ((⟨(List.toArray [])⟩ : ByteArray), ((t1.2.1.1, (t1.2.1.2.1, ((4 : Int), ()))), ()))) else (let v2 : Int := t1.2.1.2.1
 let v3 : Int := (IntKind.wrap IntKind.i64 (v2 + n))
 let v4 : ByteArray := t1.2.1.1
 let v5 : Int := (IntKind.wrap IntKind.i64 (v3 - n))
 bif (decide (((0 : Int) ≤ v5) ∧ ((v5 ≤ v3) ∧ (v3 ≤ (((ByteArray.size v4) : Nat) : Int))))) then (K ((ByteArray.extract v4 (Int.toNat v5) (Int.toNat v3)), ((t1.2.1.1, (v3, (t1.2.1.2.2.1, ()))), ()))) else (none))))
def QY (k : Nat) (n : Int) (b0 : QeQ) : Option QY.τ := QY.c k n b0 some
def QY.T : Q19 := ⟨[.ptr 0 [], .dat (.int .i64)], [.dat QeL], 1⟩
def QY.os : List Out := [⟨.ret, [.freeze (.slot 0), .auto 1], ⟨[.dat .str], [.dat QeL]⟩⟩]
def QY.sem (k : Nat) : Qj := Q1g QY.T QY.os fun x => QY k x.1 x.2.1
noncomputable def QY.ctx (k : Nat) : Ctx := ⟨Tryz.prog, gam [(166, (Q05.sem k)), (188, (Q08.sem k))]⟩
theorem QY.gok (k : Nat) : ∀ f, Qb Tryz.prog f ((QY.ctx k).Γ f) := (Q7 (Q05.sem_ok k) (Q7 (Q08.sem_ok k) QE))
def QY.ann (k : Nat) : Ann := .nil
theorem QY.body (k : Nat) : Q1l (QY.ctx k) Tryz.f181 (Func.code Tryz.f181) (QY.ann k) QY.T QY.os (fun x K => QY.c k x.1 x.2.1 K) := by
 intro ρ x K; kernel_rfl
theorem QY.sem_ok (k : Nat) : Qb Tryz.prog 181 (QY.sem k) :=
 Q0P (C := QY.ctx k) (QY.gok k) Tryz.mix (c := Func.code Tryz.f181) (ann := QY.ann k) (T := QY.T) (os := QY.os) (fun x K => QY.c k x.1 x.2.1 K) Tryz.func181 (by kernel_rfl) (by kernel_rfl) Q3.nil (QY.body k) (by kernel_rfl) (by kernel_rfl) (by kernel_rfl)
abbrev Q0o.l0.σ : Type := ByteArray × Int × Int × Int × Unit
abbrev Q0o.l0.τ : Type := (Int × Unit)
def Q0o.l0.r (k : Nat) {ρ : Type} (x : Q0o.l0.σ) (kn : Q0o.l0.σ → Option ρ) (ke : Q0o.l0.τ → Option ρ) : Option ρ :=
 bif (decide (x.2.2.2.1 < x.2.2.1)) then (bif (decide (((0 : Int) ≤ x.2.2.2.1) ∧ (x.2.2.2.1 < (((ByteArray.size x.1) : Nat) : Int)))) then (let v0 : Int := (Q7q x.1 (Int.toNat x.2.2.2.1))
 let v1 : Int := (IntKind.wrap IntKind.i64 ((8 : Int) * x.2.2.2.1))
 bif (decide ((0 : Int) ≤ v1)) then (let v2 : Int := (Q1o BinOp.or IntKind.u64 x.2.1 (Q4p IntKind.u64 (IntKind.wrap IntKind.u64 v0) v1))
 let v3 : Int := (IntKind.wrap IntKind.i64 (x.2.2.2.1 + (1 : Int)))
 kn (x.1, (v2, (x.2.2.1, (v3, ()))))) else (none)) else (none)) else (ke (x.2.1, ()))
def Q0o.l0 (k : Nat) : Nat → Q0o.l0.σ → Option Q0o.l0.τ := Q15 (Q0o.l0.r k)
def Q0o.l0.T : StT := ⟨.dat .str :: us 2 ++ .dat (.int .u64) :: us 2 ++ .dat (.int .i64) :: .dat (.int .i64) :: us 13, []⟩
def Q0o.l0.os : List Out := [⟨(.exit 0), [.mask [3], .auto 0], ⟨us 3 ++ .dat (.int .u64) :: us 17, []⟩⟩]
def Q0o.c (k : Nat) {ρ : Type} (s : ByteArray) (K : Int × Unit → Option ρ) : Option ρ :=
 (Q0o.l0 k k (s, ((0 : Int), ((((ByteArray.size s) : Nat) : Int), ((0 : Int), ()))))).bind fun t4 => K (t4.1, ())
def Q0o (k : Nat) (s : ByteArray) : Option (Int × Unit) := Q0o.c k s some
def Q0o.tin : List Ty := [.str]
def Q0o.tout : List Ty := [(.int .u64)]
def Q0o.sem (k : Nat) : Qj := Qn Q0o.tin Q0o.tout fun x => Q0o k x.1
noncomputable def Q0o.ctx (k : Nat) : Ctx := ⟨Tryz.prog, gam []⟩
theorem Q0o.gok (k : Nat) : ∀ f, Qb Tryz.prog f ((Q0o.ctx k).Γ f) := QE
theorem Q0o.l0.round (k : Nat) : Q0V (Q0o.ctx k) (Q0e (Func.code Tryz.f180) [1, 1, 0, 1, 0, 0]) (.nil) Q0o.l0.T [.mask [0, 3, 6, 7], .auto 0] Q0o.l0.os (Q0o.l0.r k) := by
 intro ρ x kn ke; kernel_rfl
theorem Q0o.l0.ok (k : Nat) : StOK 0 Tryz.prog (.loop (Q0e (Func.code Tryz.f180) [1, 1, 0, 1, 0, 0])) (Qv Q0o.l0.T Q0o.l0.os (Q0o.l0 k k)) :=
 Q0X (C := Q0o.ctx k) (Q0o.gok k) Tryz.mix Q3.nil (by kernel_rfl) (by kernel_rfl) (by kernel_rfl) (Q0o.l0.round k) k
def Q0o.ann (k : Nat) : Ann := .node [] none (.nil) (.node [] none (.nil) (.node [] none (.node [] none (.nil) (.node [] none (.node [] (some (Qv Q0o.l0.T Q0o.l0.os (Q0o.l0 k k))) .nil .nil) (.nil))) (.nil)))
theorem Q0o.body (k : Nat) : Q0M (Q0o.ctx k) Tryz.f180 (Func.code Tryz.f180) (Q0o.ann k) Q0o.tin Q0o.tout (fun x K => Q0o.c k x.1 K) := by
 intro ρ x K; kernel_rfl
theorem Q0o.sem_ok (k : Nat) : Qb Tryz.prog 180 (Q0o.sem k) :=
 Qs (C := Q0o.ctx k) (Q0o.gok k) Tryz.mix (c := Func.code Tryz.f180) (ann := Q0o.ann k) (tin := Q0o.tin) (tout := Q0o.tout) (fun x K => Q0o.c k x.1 K) Tryz.func180 (by kernel_rfl) (by kernel_rfl) (Q3.seq Q3.nil (Q3.seq Q3.nil (Q3.seq (Q3.seq Q3.nil (Q3.block (Q3.loop (by kernel_rfl) (Q0o.l0.ok k)))) Q3.nil))) (Q0o.body k)
abbrev QO.τ : Type := QeN 
def QO.c (k : Nat) {ρ : Type} (b0 : QeQ) (K : QO.τ → Option ρ) : Option ρ :=
 (QY k (4 : Int) (b0.1, (b0.2.1, (b0.2.2.1, ())))).bind fun t0 => (Q0o k t0.1).bind fun t1 => let v2 : Int := (IntKind.wrap IntKind.u32 t1.1)
 K (v2, ((t0.2.1.1, (t0.2.1.2.1, (t0.2.1.2.2.1, ()))), ()))
def QO (k : Nat) (b0 : QeQ) : Option QO.τ := QO.c k b0 some
def QO.T : Q19 := ⟨[.ptr 0 []], [.dat QeL], 1⟩
def QO.os : List Out := [⟨.ret, [.freeze (.slot 0), .auto 1], ⟨[.dat (.int .u32)], [.dat QeL]⟩⟩]
def QO.sem (k : Nat) : Qj := Q1g QO.T QO.os fun x => QO k x.1
noncomputable def QO.ctx (k : Nat) : Ctx := ⟨Tryz.prog, gam [(181, (QY.sem k)), (180, (Q0o.sem k))]⟩
theorem QO.gok (k : Nat) : ∀ f, Qb Tryz.prog f ((QO.ctx k).Γ f) := (Q7 (QY.sem_ok k) (Q7 (Q0o.sem_ok k) QE))
def QO.ann (k : Nat) : Ann := .nil
theorem QO.body (k : Nat) : Q1l (QO.ctx k) Tryz.f165 (Func.code Tryz.f165) (QO.ann k) QO.T QO.os (fun x K => QO.c k x.1 K) := by
 intro ρ x K; kernel_rfl
theorem QO.sem_ok (k : Nat) : Qb Tryz.prog 165 (QO.sem k) :=
 Q0P (C := QO.ctx k) (QO.gok k) Tryz.mix (c := Func.code Tryz.f165) (ann := QO.ann k) (T := QO.T) (os := QO.os) (fun x K => QO.c k x.1 K) Tryz.func165 (by kernel_rfl) (by kernel_rfl) Q3.nil (QO.body k) (by kernel_rfl) (by kernel_rfl) (by kernel_rfl)
def QO.wsem (k : Nat) : Qj := QcJ QO.T QO.os fun x => QO k x.1
theorem QO.wsem_ok (k : Nat) : Qb Tryz.prog 165 (QO.wsem k) := QdM (QO.sem_ok k)
def Q0x.c (k : Nat) {ρ : Type} (t : QeI) (K : Int × Bool × Unit → Option ρ) : Option ρ :=
 (Q0d k (t.1, (t.2.1, (t.2.2.1, (t.2.2.2.1, ()))))).bind fun t0 => bif (!t0.1) then (K ((0 : Int), (false, ()))) else (let v1 : QeK := t.2.1
 bif (decide (((0 : Int) ≤ (0 : Int)) ∧ ((0 : Int) < (((List.length v1) : Nat) : Int)))) then (let v2 : ByteArray := (List.getD v1 0 (((List.replicate 32 (0 : Int)), ((0 : Int), ())), (ByteArray.empty, ((0 : Int), ())))).2.1
 (Q0k k v2).bind fun t3 => (QO k (t3.1.1, (t3.1.2.1, (t3.1.2.2.1, ())))).bind fun t4 => (Q05 k (t4.2.1.1, (t4.2.1.2.1, (t4.2.1.2.2.1, ())))).bind fun t5 => bif (t5.1 != (0 : Int)) then (K ((0 : Int), (false, ()))) else (bif (decide (t4.1 > (2147483647 : Int))) then (K ((0 : Int), (false, ()))) else (let v6 : Int := (IntKind.wrap IntKind.i64 t4.1)
 K (v6, (true, ()))))) else (none))
def Q0x (k : Nat) (t : QeI) : Option (Int × Bool × Unit) := Q0x.c k t some
def Q0x.tin : List Ty := [QeF]
def Q0x.tout : List Ty := [(.int .i64), .bool]
def Q0x.sem (k : Nat) : Qj := Qn Q0x.tin Q0x.tout fun x => Q0x k x.1
noncomputable def Q0x.ctx (k : Nat) : Ctx := ⟨Tryz.prog, gam [(163, (Q0d.sem k)), (164, (Q0k.sem k)), (165, (QO.wsem k)), (166, (Q05.sem k))]⟩
theorem Q0x.gok (k : Nat) : ∀ f, Qb Tryz.prog f ((Q0x.ctx k).Γ f) := (Q7 (Q0d.sem_ok k) (Q7 (Q0k.sem_ok k) (Q7 (QO.wsem_ok k) (Q7 (Q05.sem_ok k) QE))))
def Q0x.ann (k : Nat) : Ann := .nil
theorem Q0x.body (k : Nat) : Q0M (Q0x.ctx k) Tryz.f138 (Func.code Tryz.f138) (Q0x.ann k) Q0x.tin Q0x.tout (fun x K => Q0x.c k x.1 K) := by
 intro ρ x K; kernel_rfl
theorem Q0x.sem_ok (k : Nat) : Qb Tryz.prog 138 (Q0x.sem k) :=
 Qs (C := Q0x.ctx k) (Q0x.gok k) Tryz.mix (c := Func.code Tryz.f138) (ann := Q0x.ann k) (tin := Q0x.tin) (tout := Q0x.tout) (fun x K => Q0x.c k x.1 K) Tryz.func138 (by kernel_rfl) (by kernel_rfl) Q3.nil (Q0x.body k)
end Go.Am
namespace Go.Am
open Go Go.Proofs
set_option maxRecDepth 100000
abbrev QT.l0.σ : Type := Int × QeH × Int × Int × Unit
abbrev QT.l0.τ : Type := (Int × Unit)
def QT.l0.r (k : Nat) {ρ : Type} (x : QT.l0.σ) (kn : QT.l0.σ → Option ρ) (ke : QT.l0.τ → Option ρ) : Option ρ :=
 bif (decide (x.2.2.2.1 < x.2.2.1)) then (bif (decide (((0 : Int) ≤ x.2.2.2.1) ∧ (x.2.2.2.1 < (((List.length x.2.1) : Nat) : Int)))) then ((Q01 k ((List.getD x.2.1 (Int.toNat x.2.2.2.1) ((0 : Int), ([], ([], ((0 : Int), ()))))).1, ((List.getD x.2.1 (Int.toNat x.2.2.2.1) ((0 : Int), ([], ([], ((0 : Int), ()))))).2.1, ((List.getD x.2.1 (Int.toNat x.2.2.2.1) ((0 : Int), ([], ([], ((0 : Int), ()))))).2.2.1, ((List.getD x.2.1 (Int.toNat x.2.2.2.1) ((0 : Int), ([], ([], ((0 : Int), ()))))).2.2.2.1, ()))))).bind fun t6 => let v7 : Int := (IntKind.wrap IntKind.i64 (x.1 + t6.1))
 let v8 : Int := (IntKind.wrap IntKind.i64 (x.2.2.2.1 + (1 : Int)))
 kn (v7, (x.2.1, (x.2.2.1, (v8, ()))))) else (none)) else (ke (x.1, ()))
def QT.l0 (k : Nat) : Nat → QT.l0.σ → Option QT.l0.τ := Q15 (QT.l0.r k)
def QT.l0.T : StT := ⟨us 3 ++ .dat (.int .i64) :: us 9 ++ .dat QeD :: .dat (.int .i64) :: .dat (.int .i64) :: us 9, []⟩
def QT.l0.os : List Out := [⟨(.exit 0), [.mask [3], .auto 0], ⟨us 3 ++ .dat (.int .i64) :: us 21, []⟩⟩]
def QT.c (k : Nat) {ρ : Type} (b : QeE) (K : Int × Unit → Option ρ) : Option ρ :=
 let v0 : QeH := b.2.1
 let v1 : Int := (((List.length v0) : Nat) : Int)
 (Q02 k (IntKind.wrap IntKind.u64 v1)).bind fun t2 => let v3 : Int := (IntKind.wrap IntKind.i64 ((80 : Int) + t2.1))
 let v4 : QeH := b.2.1
 let v5 : Int := (((List.length v4) : Nat) : Int)
 (QT.l0 k k (v3, (v4, (v5, ((0 : Int), ()))))).bind fun t9 => K (t9.1, ())
def QT (k : Nat) (b : QeE) : Option (Int × Unit) := QT.c k b some
def QT.tin : List Ty := [QeC]
def QT.tout : List Ty := [(.int .i64)]
def QT.sem (k : Nat) : Qj := Qn QT.tin QT.tout fun x => QT k x.1
noncomputable def QT.ctx (k : Nat) : Ctx := ⟨Tryz.prog, gam [(126, (Q02.sem k)), (92, (Q01.sem k))]⟩
theorem QT.gok (k : Nat) : ∀ f, Qb Tryz.prog f ((QT.ctx k).Γ f) := (Q7 (Q02.sem_ok k) (Q7 (Q01.sem_ok k) QE))
theorem QT.l0.round (k : Nat) : Q0V (QT.ctx k) (Q0e (Func.code Tryz.f160) [1, 1, 0, 1, 0, 0]) (.nil) QT.l0.T [.mask [3, 13, 14, 15], .auto 0] QT.l0.os (QT.l0.r k) := by
 intro ρ x kn ke; kernel_rfl
theorem QT.l0.ok (k : Nat) : StOK 0 Tryz.prog (.loop (Q0e (Func.code Tryz.f160) [1, 1, 0, 1, 0, 0])) (Qv QT.l0.T QT.l0.os (QT.l0 k k)) :=
 Q0X (C := QT.ctx k) (QT.gok k) Tryz.mix Q3.nil (by kernel_rfl) (by kernel_rfl) (by kernel_rfl) (QT.l0.round k) k
def QT.ann (k : Nat) : Ann := .node [] none (.nil) (.node [] none (.nil) (.node [] none (.node [] none (.nil) (.node [] none (.node [.mask [3, 13, 14, 15], .auto 0] (some (Qv QT.l0.T QT.l0.os (QT.l0 k k))) .nil .nil) (.nil))) (.nil)))
theorem QT.body (k : Nat) : Q0M (QT.ctx k) Tryz.f160 (Func.code Tryz.f160) (QT.ann k) QT.tin QT.tout (fun x K => QT.c k x.1 K) := by
 intro ρ x K; kernel_rfl
theorem QT.sem_ok (k : Nat) : Qb Tryz.prog 160 (QT.sem k) :=
 Qs (C := QT.ctx k) (QT.gok k) Tryz.mix (c := Func.code Tryz.f160) (ann := QT.ann k) (tin := QT.tin) (tout := QT.tout) (fun x K => QT.c k x.1 K) Tryz.func160 (by kernel_rfl) (by kernel_rfl) (Q3.seq Q3.nil (Q3.seq Q3.nil (Q3.seq (Q3.seq Q3.nil (Q3.block (Q3.loop (by kernel_rfl) (QT.l0.ok k)))) Q3.nil))) (QT.body k)
abbrev Q2.l0.σ : Type := QeH × Unit × Int × Int × Unit
abbrev Q2.l0.τ : Type := (Int × Unit) ⊕ (Unit)
def Q2.l0.r (k : Nat) {ρ : Type} (x : Q2.l0.σ) (kn : Q2.l0.σ → Option ρ) (ke : Q2.l0.τ → Option ρ) : Option ρ :=
 bif (decide (x.2.2.2.1 < x.2.2.1)) then (bif (decide (((0 : Int) ≤ x.2.2.2.1) ∧ (x.2.2.2.1 < (((List.length x.1) : Nat) : Int)))) then ((Q0W k ((List.getD x.1 (Int.toNat x.2.2.2.1) ((0 : Int), ([], ([], ((0 : Int), ()))))).1, ((List.getD x.1 (Int.toNat x.2.2.2.1) ((0 : Int), ([], ([], ((0 : Int), ()))))).2.1, ((List.getD x.1 (Int.toNat x.2.2.2.1) ((0 : Int), ([], ([], ((0 : Int), ()))))).2.2.1, ((List.getD x.1 (Int.toNat x.2.2.2.1) ((0 : Int), ([], ([], ((0 : Int), ()))))).2.2.2.1, ()))))).bind fun t1 => bif t1.1 then (ke (.inl (x.2.2.2.1, ()))) else (let v2 : Int := (IntKind.wrap IntKind.i64 (x.2.2.2.1 + (1 : Int)))
 kn (x.1, ((), (x.2.2.1, (v2, ())))))) else (none)) else (ke (.inr ()))
def Q2.l0 (k : Nat) : Nat → Q2.l0.σ → Option Q2.l0.τ := Q15 (Q2.l0.r k)
def Q2.l0.T : StT := ⟨.dat QeD :: .fn 43 (.dat .unit) :: us 5 ++ .dat (.int .i64) :: .dat (.int .i64) :: us 10, []⟩
def Q2.l0.os : List Out := [⟨.ret, [.mask [4], .auto 0], ⟨us 4 ++ .dat (.int .i64) :: us 14, []⟩⟩, ⟨(.exit 0), [.mask [], .auto 0], ⟨us 19, []⟩⟩]
abbrev Q2.τ : Type := (Int × Unit)
def Q2.c (k : Nat) {ρ : Type} (s : QeH) (f : Unit) (K : Q2.τ → Option ρ) : Option ρ :=
  let v0 : Int := (((List.length s) : Nat) : Int)
  (Q2.l0 k k (s, ((), (v0, ((0 : Int), ()))))).bind fun t3 => (match t3 with
 | .inl t4 => (K (t4.1, ()))
 | .inr (t5) => (K ((-(1 : Int)), ())))
def Q2 (k : Nat) (s : QeH) (f : Unit) : Option Q2.τ := Q2.c k s f some
def Q2.T : Q19 := ⟨[.dat QeD, .fn 43 (.dat .unit)], [], 0⟩
def Q2.os : List Out := [⟨.ret, [.freeze (.slot 0), .auto 0], ⟨[.dat (.int .i64)], []⟩⟩]
def Q2.sem (k : Nat) : Qj := Q1g Q2.T Q2.os fun x => Q2 k x.1 x.2.1
noncomputable def Q2.ctx (k : Nat) : Ctx := ⟨Tryz.prog, gam [(43, (Q0W.sem k))]⟩
theorem Q2.gok (k : Nat) : ∀ f, Qb Tryz.prog f ((Q2.ctx k).Γ f) := (Q7 (Q0W.sem_ok k) QE)
theorem Q2.l0.round (k : Nat) : Q0V (Q2.ctx k) (Q0e (Func.code Tryz.f178) [1, 0, 1, 0, 0]) (.nil) Q2.l0.T [.mask [0, 1, 7, 8], .auto 0] Q2.l0.os (Q2.l0.r k) := by
 intro ρ x kn ke; kernel_rfl
theorem Q2.l0.ok (k : Nat) : StOK 0 Tryz.prog (.loop (Q0e (Func.code Tryz.f178) [1, 0, 1, 0, 0])) (Qv Q2.l0.T Q2.l0.os (Q2.l0 k k)) :=
 Q0X (C := Q2.ctx k) (Q2.gok k) Tryz.mix Q3.nil (by kernel_rfl) (by kernel_rfl) (by kernel_rfl) (Q2.l0.round k) k
def Q2.ann (k : Nat) : Ann := .node [] none (.nil) (.node [] none (.node [] none (.nil) (.node [] none (.node [] (some (Qv Q2.l0.T Q2.l0.os (Q2.l0 k k))) .nil .nil) (.nil))) (.nil))
theorem Q2.body (k : Nat) : Q1l (Q2.ctx k) Tryz.f178 (Func.code Tryz.f178) (Q2.ann k) Q2.T Q2.os (fun x K => Q2.c k x.1 x.2.1 K) := by
 intro ρ x K; kernel_rfl
theorem Q2.sem_ok (k : Nat) : Qb Tryz.prog 178 (Q2.sem k) :=
 Q0P (C := Q2.ctx k) (Q2.gok k) Tryz.mix (c := Func.code Tryz.f178) (ann := Q2.ann k) (T := Q2.T) (os := Q2.os) (fun x K => Q2.c k x.1 x.2.1 K) Tryz.func178 (by kernel_rfl) (by kernel_rfl) (Q3.seq Q3.nil (Q3.seq (Q3.seq Q3.nil (Q3.block (Q3.loop (by kernel_rfl) (Q2.l0.ok k)))) Q3.nil)) (Q2.body k) (by kernel_rfl) (by kernel_rfl) (by kernel_rfl)
abbrev Q8.τ : Type := (Bool × Unit)
def Q8.c (k : Nat) {ρ : Type} (s : QeH) (f : Unit) (K : Q8.τ → Option ρ) : Option ρ :=
 (Q2 k s ()).bind fun t0 => K ((decide (t0.1 ≥ (0 : Int))), ())
def Q8 (k : Nat) (s : QeH) (f : Unit) : Option Q8.τ := Q8.c k s f some
def Q8.T : Q19 := ⟨[.dat QeD, .fn 43 (.dat .unit)], [], 0⟩
def Q8.os : List Out := [⟨.ret, [.freeze (.slot 0), .auto 0], ⟨[.dat .bool], []⟩⟩]
def Q8.sem (k : Nat) : Qj := Q1g Q8.T Q8.os fun x => Q8 k x.1 x.2.1
noncomputable def Q8.ctx (k : Nat) : Ctx := ⟨Tryz.prog, gam [(178, (Q2.sem k))]⟩
theorem Q8.gok (k : Nat) : ∀ f, Qb Tryz.prog f ((Q8.ctx k).Γ f) := (Q7 (Q2.sem_ok k) QE)
def Q8.ann (k : Nat) : Ann := .nil
theorem Q8.body (k : Nat) : Q1l (Q8.ctx k) Tryz.f161 (Func.code Tryz.f161) (Q8.ann k) Q8.T Q8.os (fun x K => Q8.c k x.1 x.2.1 K) := by
 intro ρ x K; kernel_rfl
theorem Q8.sem_ok (k : Nat) : Qb Tryz.prog 161 (Q8.sem k) :=
 Q0P (C := Q8.ctx k) (Q8.gok k) Tryz.mix (c := Func.code Tryz.f161) (ann := Q8.ann k) (T := Q8.T) (os := Q8.os) (fun x K => Q8.c k x.1 x.2.1 K) Tryz.func161 (by kernel_rfl) (by kernel_rfl) Q3.nil (Q8.body k) (by kernel_rfl) (by kernel_rfl) (by kernel_rfl)
abbrev Qy.p0.σ : Type := QeI × Unit
abbrev Qy.p0.τ : Type := (Int × Unit) ⊕ QeG 
def Qy.p0.r (k : Nat) {ρ : Type} (x : Qy.p0.σ) (K : Qy.p0.τ → Option ρ) : Option ρ :=
 let v3 : QeK := x.1.2.1
 let v4 : Int := (((List.length v3) : Nat) : Int)
 bif (v4 == (0 : Int)) then (K (.inl ((102 : Int), ()))) else (let v5 : QeR := x.1.2.2.1
 let v6 : Int := (((List.length v5) : Nat) : Int)
 bif (v6 == (0 : Int)) then (K (.inl ((102 : Int), ()))) else (K (.inr ((x.1.1, (x.1.2.1, (x.1.2.2.1, (x.1.2.2.2.1, ())))), ()))))
def Qy.p0 (k : Nat) (x : Qy.p0.σ) : Option Qy.p0.τ := Qy.p0.r k x some
def Qy.p0.T : StT := ⟨us 1 ++ .ptr 0 [] :: us 70, [.dat QeF]⟩
def Qy.p0.os : List Out := [⟨.ret, [.mask [2], .auto 0], ⟨us 2 ++ .dat (.int .i64) :: us 69, []⟩⟩, ⟨.normal, [.mask [1], .auto 0], ⟨us 1 ++ .ptr 0 [] :: us 70, [.dat QeF]⟩⟩]
abbrev Qy.l1.σ : Type := QeK × Int × Int × QeI × (List (QeS × Bool)) × Unit
abbrev Qy.l1.τ : Type := (Int × Unit) ⊕ (QeI × (List (QeS × Bool)) × Unit)
def Qy.l1.r (k : Nat) {ρ : Type} (x : Qy.l1.σ) (kn : Qy.l1.σ → Option ρ) (ke : Qy.l1.τ → Option ρ) : Option ρ :=
 bif (decide (x.2.2.1 < x.2.1)) then (bif (decide (((0 : Int) ≤ x.2.2.1) ∧ (x.2.2.1 < (((List.length x.1) : Nat) : Int)))) then (bif (Option.getD (mget (Ty.pair (Ty.arr 32 (Ty.int IntKind.u8)) (Ty.pair (Ty.int IntKind.u32) Ty.unit)) ((List.getD x.1 (Int.toNat x.2.2.1) (((List.replicate 32 (0 : Int)), ((0 : Int), ())), (ByteArray.empty, ((0 : Int), ())))).1.1, ((List.getD x.1 (Int.toNat x.2.2.1) (((List.replicate 32 (0 : Int)), ((0 : Int), ())), (ByteArray.empty, ((0 : Int), ())))).1.2.1, ())) x.2.2.2.2.1) false) then (ke (.inl ((104 : Int), ()))) else (let v15 : Int := (IntKind.wrap IntKind.i64 (x.2.2.1 + (1 : Int)))
 kn (x.1, (x.2.1, (v15, ((x.2.2.2.1.1, (x.2.2.2.1.2.1, (x.2.2.2.1.2.2.1, (x.2.2.2.1.2.2.2.1, ())))), ((mset (Ty.pair (Ty.arr 32 (Ty.int IntKind.u8)) (Ty.pair (Ty.int IntKind.u32) Ty.unit)) ((List.getD x.1 (Int.toNat x.2.2.1) (((List.replicate 32 (0 : Int)), ((0 : Int), ())), (ByteArray.empty, ((0 : Int), ())))).1.1, ((List.getD x.1 (Int.toNat x.2.2.1) (((List.replicate 32 (0 : Int)), ((0 : Int), ())), (ByteArray.empty, ((0 : Int), ())))).1.2.1, ())) true x.2.2.2.2.1), ()))))))) else (none)) else (ke (.inr ((x.2.2.2.1.1, (x.2.2.2.1.2.1, (x.2.2.2.1.2.2.1, (x.2.2.2.1.2.2.2.1, ())))), (x.2.2.2.2.1, ()))))
def Qy.l1 (k : Nat) : Nat → Qy.l1.σ → Option Qy.l1.τ := Q15 (Qy.l1.r k)
def Qy.l1.T : StT := ⟨us 1 ++ .ptr 0 [] :: us 5 ++ .mp 1 :: us 31 ++ .dat QeJ :: .dat (.int .i64) :: .dat (.int .i64) :: us 30, [.dat QeF, .mpd QeM .bool]⟩
def Qy.l1.os : List Out := [⟨.ret, [.mask [2], .auto 0], ⟨us 2 ++ .dat (.int .i64) :: us 69, []⟩⟩, ⟨(.exit 0), [.mask [1, 7], .auto 0], ⟨us 1 ++ .ptr 0 [] :: us 5 ++ .mp 1 :: us 64, [.dat QeF, .mpd QeM .bool]⟩⟩]
def Qy.c (k : Nat) {ρ : Type} (t : QeI) (K : Int × Unit → Option ρ) : Option ρ :=
  (Q9 k (t.1, (t.2.1, (t.2.2.1, (t.2.2.2.1, ()))))).bind fun t0 => let v1 : ByteArray := t0.1
  let v2 : Int := t0.2.1
  bif (v2 != (0 : Int)) then (K (v2, ())) else ((Qy.p0 k ((t.1, (t.2.1, (t.2.2.1, (t.2.2.2.1, ())))), ())).bind fun t7 => (match t7 with
 | .inl t8 => (K (t8.1, ()))
 | .inr (t9) => ((Q0w k (t9.1.1, (t9.1.2.1, (t9.1.2.2.1, (t9.1.2.2.2.1, ()))))).bind fun t10 => let v11 : Int := t10.1
  let v12 : Int := t10.2.1
  bif (v12 != (0 : Int)) then (K (v12, ())) else (let v13 : QeK := t9.1.2.1
  let v14 : Int := (((List.length v13) : Nat) : Int)
  (Qy.l1 k k (v13, (v14, ((0 : Int), ((t9.1.1, (t9.1.2.1, (t9.1.2.2.1, (t9.1.2.2.2.1, ())))), ([], ())))))).bind fun t16 => (match t16 with
 | .inl t17 => (K (t17.1, ()))
 | .inr (t18) => ((Q0W k (t18.1.1, (t18.1.2.1, (t18.1.2.2.1, (t18.1.2.2.2.1, ()))))).bind fun t19 => bif t19.1 then (let v20 : QeK := t18.1.2.1
  bif (decide (((0 : Int) ≤ (0 : Int)) ∧ ((0 : Int) < (((List.length v20) : Nat) : Int)))) then (let v21 : ByteArray := (List.getD v20 0 (((List.replicate 32 (0 : Int)), ((0 : Int), ())), (ByteArray.empty, ((0 : Int), ())))).2.1
  bif (decide ((((ByteArray.size v21) : Nat) : Int) < (2 : Int))) then (K ((105 : Int), ())) else (bif (decide ((((ByteArray.size v21) : Nat) : Int) > (100 : Int))) then (K ((105 : Int), ())) else (K ((0 : Int), ())))) else (none)) else ((Q13 k ).bind fun t22 => bif (Option.getD (mget (Ty.pair (Ty.arr 32 (Ty.int IntKind.u8)) (Ty.pair (Ty.int IntKind.u32) Ty.unit)) (t22.1.1, (t22.1.2.1, ())) t18.2.1) false) then (K ((106 : Int), ())) else (K ((0 : Int), ())))))))))
def Qy (k : Nat) (t : QeI) : Option (Int × Unit) := Qy.c k t some
def Qy.tin : List Ty := [QeF]
def Qy.tout : List Ty := [(.int .i64)]
def Qy.sem (k : Nat) : Qj := Qn Qy.tin Qy.tout fun x => Qy k x.1
noncomputable def Qy.ctx (k : Nat) : Ctx := ⟨Tryz.prog, gam [(74, (Q9.sem k)), (79, (Q0w.sem k)), (43, (Q0W.sem k)), (77, (Q13.sem k))]⟩
theorem Qy.gok (k : Nat) : ∀ f, Qb Tryz.prog f ((Qy.ctx k).Γ f) := (Q7 (Q9.sem_ok k) (Q7 (Q0w.sem_ok k) (Q7 (Q0W.sem_ok k) (Q7 (Q13.sem_ok k) QE))))
theorem Qy.l1.round (k : Nat) : Q0V (Qy.ctx k) (Q0e (Func.code Tryz.f91) [1, 1, 1, 1, 1, 0, 1, 0, 0]) (.nil) Qy.l1.T [.mask [1, 7, 39, 40, 41], .auto 0] Qy.l1.os (Qy.l1.r k) := by
 intro ρ x kn ke; kernel_rfl
theorem Qy.l1.ok (k : Nat) : StOK 0 Tryz.prog (.loop (Q0e (Func.code Tryz.f91) [1, 1, 1, 1, 1, 0, 1, 0, 0])) (Qv Qy.l1.T Qy.l1.os (Qy.l1 k k)) :=
 Q0X (C := Qy.ctx k) (Qy.gok k) Tryz.mix Q3.nil (by kernel_rfl) (by kernel_rfl) (by kernel_rfl) (Qy.l1.round k) k
theorem Qy.p0.is (k : Nat) : Q45 (Qy.ctx k) (Q0e (Func.code Tryz.f91) [1, 1, 0]) (.nil) Qy.p0.T Qy.p0.os (Qy.p0.r k) := by
 intro ρ x K; kernel_rfl
theorem Qy.p0.ok (k : Nat) : StOK 0 Tryz.prog (Q0e (Func.code Tryz.f91) [1, 1, 0]) (Qv Qy.p0.T Qy.p0.os (Qy.p0 k)) :=
 Q3Z (C := Qy.ctx k) (T := Qy.p0.T) (os := Qy.p0.os) (Qy.gok k) Tryz.mix (fun x K => Qy.p0.r k x K) Q3.nil (by kernel_rfl) (by kernel_rfl) (Qy.p0.is k)
def Qy.ann (k : Nat) : Ann := .node [] none (.nil) (.node [] none (.nil) (.node [] none (.node [.mask [1], .auto 0] (some (Qv Qy.p0.T Qy.p0.os (Qy.p0 k))) .nil .nil) (.node [] none (.nil) (.node [] none (.nil) (.node [] none (.node [] none (.nil) (.node [] none (.node [.mask [1, 7, 39, 40, 41], .auto 0] (some (Qv Qy.l1.T Qy.l1.os (Qy.l1 k k))) .nil .nil) (.nil))) (.nil))))))
theorem Qy.body (k : Nat) : Q0M (Qy.ctx k) Tryz.f91 (Func.code Tryz.f91) (Qy.ann k) Qy.tin Qy.tout (fun x K => Qy.c k x.1 K) := by
 intro ρ x K; kernel_rfl
theorem Qy.sem_ok (k : Nat) : Qb Tryz.prog 91 (Qy.sem k) :=
 Qs (C := Qy.ctx k) (Qy.gok k) Tryz.mix (c := Func.code Tryz.f91) (ann := Qy.ann k) (tin := Qy.tin) (tout := Qy.tout) (fun x K => Qy.c k x.1 K) Tryz.func91 (by kernel_rfl) (by kernel_rfl) (Q3.seq Q3.nil (Q3.seq Q3.nil (Q3.seq (Q3.loop (by kernel_rfl) (Qy.p0.ok k)) (Q3.seq Q3.nil (Q3.seq Q3.nil (Q3.seq (Q3.seq Q3.nil (Q3.block (Q3.loop (by kernel_rfl) (Qy.l1.ok k)))) Q3.nil)))))) (Qy.body k)
def Q0r.c (k : Nat) {ρ : Type} (t : QeI) (K : Bool × Unit → Option ρ) : Option ρ :=
 (Qy k (t.1, (t.2.1, (t.2.2.1, (t.2.2.2.1, ()))))).bind fun t0 => K ((t0.1 != (0 : Int)), ())
def Q0r (k : Nat) (t : QeI) : Option (Bool × Unit) := Q0r.c k t some
def Q0r.tin : List Ty := [QeF]
def Q0r.tout : List Ty := [.bool]
def Q0r.sem (k : Nat) : Qj := Qn Q0r.tin Q0r.tout fun x => Q0r k x.1
noncomputable def Q0r.ctx (k : Nat) : Ctx := ⟨Tryz.prog, gam [(91, (Qy.sem k))]⟩
theorem Q0r.gok (k : Nat) : ∀ f, Qb Tryz.prog f ((Q0r.ctx k).Γ f) := (Q7 (Qy.sem_ok k) QE)
def Q0r.ann (k : Nat) : Ann := .nil
theorem Q0r.body (k : Nat) : Q0M (Q0r.ctx k) Tryz.f179 (Func.code Tryz.f179) (Q0r.ann k) Q0r.tin Q0r.tout (fun x K => Q0r.c k x.1 K) := by
 intro ρ x K; kernel_rfl
theorem Q0r.sem_ok (k : Nat) : Qb Tryz.prog 179 (Q0r.sem k) :=
 Qs (C := Q0r.ctx k) (Q0r.gok k) Tryz.mix (c := Func.code Tryz.f179) (ann := Q0r.ann k) (tin := Q0r.tin) (tout := Q0r.tout) (fun x K => Q0r.c k x.1 K) Tryz.func179 (by kernel_rfl) (by kernel_rfl) Q3.nil (Q0r.body k)
abbrev Q0.l0.σ : Type := QeH × Unit × Int × Int × Unit
abbrev Q0.l0.τ : Type := (Int × Unit) ⊕ (Unit)
def Q0.l0.r (k : Nat) {ρ : Type} (x : Q0.l0.σ) (kn : Q0.l0.σ → Option ρ) (ke : Q0.l0.τ → Option ρ) : Option ρ :=
 bif (decide (x.2.2.2.1 < x.2.2.1)) then (bif (decide (((0 : Int) ≤ x.2.2.2.1) ∧ (x.2.2.2.1 < (((List.length x.1) : Nat) : Int)))) then ((Q0r k ((List.getD x.1 (Int.toNat x.2.2.2.1) ((0 : Int), ([], ([], ((0 : Int), ()))))).1, ((List.getD x.1 (Int.toNat x.2.2.2.1) ((0 : Int), ([], ([], ((0 : Int), ()))))).2.1, ((List.getD x.1 (Int.toNat x.2.2.2.1) ((0 : Int), ([], ([], ((0 : Int), ()))))).2.2.1, ((List.getD x.1 (Int.toNat x.2.2.2.1) ((0 : Int), ([], ([], ((0 : Int), ()))))).2.2.2.1, ()))))).bind fun t1 => bif t1.1 then (ke (.inl (x.2.2.2.1, ()))) else (let v2 : Int := (IntKind.wrap IntKind.i64 (x.2.2.2.1 + (1 : Int)))
 kn (x.1, ((), (x.2.2.1, (v2, ())))))) else (none)) else (ke (.inr ()))
def Q0.l0 (k : Nat) : Nat → Q0.l0.σ → Option Q0.l0.τ := Q15 (Q0.l0.r k)
def Q0.l0.T : StT := ⟨.dat QeD :: .fn 179 (.dat .unit) :: us 5 ++ .dat (.int .i64) :: .dat (.int .i64) :: us 10, []⟩
def Q0.l0.os : List Out := [⟨.ret, [.mask [4], .auto 0], ⟨us 4 ++ .dat (.int .i64) :: us 14, []⟩⟩, ⟨(.exit 0), [.mask [], .auto 0], ⟨us 19, []⟩⟩]
abbrev Q0.τ : Type := (Int × Unit)
def Q0.c (k : Nat) {ρ : Type} (s : QeH) (f : Unit) (K : Q0.τ → Option ρ) : Option ρ :=
  let v0 : Int := (((List.length s) : Nat) : Int)
  (Q0.l0 k k (s, ((), (v0, ((0 : Int), ()))))).bind fun t3 => (match t3 with
 | .inl t4 => (K (t4.1, ()))
 | .inr (t5) => (K ((-(1 : Int)), ())))
def Q0 (k : Nat) (s : QeH) (f : Unit) : Option Q0.τ := Q0.c k s f some
def Q0.T : Q19 := ⟨[.dat QeD, .fn 179 (.dat .unit)], [], 0⟩
def Q0.os : List Out := [⟨.ret, [.freeze (.slot 0), .auto 0], ⟨[.dat (.int .i64)], []⟩⟩]
def Q0.sem (k : Nat) : Qj := Q1g Q0.T Q0.os fun x => Q0 k x.1 x.2.1
noncomputable def Q0.ctx (k : Nat) : Ctx := ⟨Tryz.prog, gam [(179, (Q0r.sem k))]⟩
theorem Q0.gok (k : Nat) : ∀ f, Qb Tryz.prog f ((Q0.ctx k).Γ f) := (Q7 (Q0r.sem_ok k) QE)
theorem Q0.l0.round (k : Nat) : Q0V (Q0.ctx k) (Q0e (Func.code Tryz.f178) [1, 0, 1, 0, 0]) (.nil) Q0.l0.T [.mask [0, 1, 7, 8], .auto 0] Q0.l0.os (Q0.l0.r k) := by
 intro ρ x kn ke; kernel_rfl
theorem Q0.l0.ok (k : Nat) : StOK 0 Tryz.prog (.loop (Q0e (Func.code Tryz.f178) [1, 0, 1, 0, 0])) (Qv Q0.l0.T Q0.l0.os (Q0.l0 k k)) :=
 Q0X (C := Q0.ctx k) (Q0.gok k) Tryz.mix Q3.nil (by kernel_rfl) (by kernel_rfl) (by kernel_rfl) (Q0.l0.round k) k
def Q0.ann (k : Nat) : Ann := .node [] none (.nil) (.node [] none (.node [] none (.nil) (.node [] none (.node [] (some (Qv Q0.l0.T Q0.l0.os (Q0.l0 k k))) .nil .nil) (.nil))) (.nil))
theorem Q0.body (k : Nat) : Q1l (Q0.ctx k) Tryz.f178 (Func.code Tryz.f178) (Q0.ann k) Q0.T Q0.os (fun x K => Q0.c k x.1 x.2.1 K) := by
 intro ρ x K; kernel_rfl
theorem Q0.sem_ok (k : Nat) : Qb Tryz.prog 178 (Q0.sem k) :=
 Q0P (C := Q0.ctx k) (Q0.gok k) Tryz.mix (c := Func.code Tryz.f178) (ann := Q0.ann k) (T := Q0.T) (os := Q0.os) (fun x K => Q0.c k x.1 x.2.1 K) Tryz.func178 (by kernel_rfl) (by kernel_rfl) (Q3.seq Q3.nil (Q3.seq (Q3.seq Q3.nil (Q3.block (Q3.loop (by kernel_rfl) (Q0.l0.ok k)))) Q3.nil)) (Q0.body k) (by kernel_rfl) (by kernel_rfl) (by kernel_rfl)
def Q0H.c (k : Nat) {ρ : Type} (b : QeE) (K : Int × Unit → Option ρ) : Option ρ :=
 let v0 : QeH := b.2.1
 (Q0 k v0 ()).bind fun t1 => K (t1.1, ())
def Q0H (k : Nat) (b : QeE) : Option (Int × Unit) := Q0H.c k b some
def Q0H.tin : List Ty := [QeC]
def Q0H.tout : List Ty := [(.int .i64)]
def Q0H.sem (k : Nat) : Qj := Qn Q0H.tin Q0H.tout fun x => Q0H k x.1
noncomputable def Q0H.ctx (k : Nat) : Ctx := ⟨Tryz.prog, gam [(178, (Q0.sem k))]⟩
theorem Q0H.gok (k : Nat) : ∀ f, Qb Tryz.prog f ((Q0H.ctx k).Γ f) := (Q7 (Q0.sem_ok k) QE)
def Q0H.ann (k : Nat) : Ann := .nil
theorem Q0H.body (k : Nat) : Q0M (Q0H.ctx k) Tryz.f162 (Func.code Tryz.f162) (Q0H.ann k) Q0H.tin Q0H.tout (fun x K => Q0H.c k x.1 K) := by
 intro ρ x K; kernel_rfl
theorem Q0H.sem_ok (k : Nat) : Qb Tryz.prog 162 (Q0H.sem k) :=
 Qs (C := Q0H.ctx k) (Q0H.gok k) Tryz.mix (c := Func.code Tryz.f162) (ann := Q0H.ann k) (tin := Q0H.tin) (tout := Q0H.tout) (fun x K => Q0H.c k x.1 K) Tryz.func162 (by kernel_rfl) (by kernel_rfl) Q3.nil (Q0H.body k)
def Qo.c (k : Nat) {ρ : Type} (b : QeE) (K : Int × Unit → Option ρ) : Option ρ :=
 (QT k ((b.1.1, (b.1.2.1, (b.1.2.2.1, (b.1.2.2.2.1, (b.1.2.2.2.2.1, (b.1.2.2.2.2.2.1, ())))))), (b.2.1, ()))).bind fun t0 => bif (decide (t0.1 > (8192 : Int))) then (K ((110 : Int), ())) else (let v1 : QeH := b.2.1
 let v2 : Int := (((List.length v1) : Nat) : Int)
 bif (v2 == (0 : Int)) then (K ((160 : Int), ())) else (let v3 : QeH := b.2.1
 (Qe k v3).bind fun t4 => let v5 : (List Int) := t4.1
 let v6 : (List Int) := b.1.2.2.1
 bif (!(decide (v5 = v6))) then (K ((161 : Int), ())) else (bif t4.2.1 then (K ((162 : Int), ())) else (let v7 : QeH := b.2.1
 bif (decide (((0 : Int) ≤ (0 : Int)) ∧ ((0 : Int) < (((List.length v7) : Nat) : Int)))) then ((Q0W k ((List.getD v7 0 ((0 : Int), ([], ([], ((0 : Int), ()))))).1, ((List.getD v7 0 ((0 : Int), ([], ([], ((0 : Int), ()))))).2.1, ((List.getD v7 0 ((0 : Int), ([], ([], ((0 : Int), ()))))).2.2.1, ((List.getD v7 0 ((0 : Int), ([], ([], ((0 : Int), ()))))).2.2.2.1, ()))))).bind fun t8 => bif (!t8.1) then (K ((163 : Int), ())) else (let v9 : QeH := b.2.1
 bif (decide (((0 : Int) ≤ (1 : Int)) ∧ (((1 : Int) ≤ (((List.length v9) : Nat) : Int)) ∧ ((((List.length v9) : Nat) : Int) ≤ (((List.length v9) : Nat) : Int))))) then (let v10 : QeH := (List.drop 1 (List.take (Int.toNat (((List.length v9) : Nat) : Int)) v9))
 (Q8 k v10 ()).bind fun t11 => bif t11.1 then (K ((164 : Int), ())) else ((Q0H k ((b.1.1, (b.1.2.1, (b.1.2.2.1, (b.1.2.2.2.1, (b.1.2.2.2.2.1, (b.1.2.2.2.2.2.1, ())))))), (b.2.1, ()))).bind fun t12 => bif (decide (t12.1 ≥ (0 : Int))) then (let v13 : QeH := b.2.1
 bif (decide (((0 : Int) ≤ t12.1) ∧ (t12.1 < (((List.length v13) : Nat) : Int)))) then ((Qy k ((List.getD v13 (Int.toNat t12.1) ((0 : Int), ([], ([], ((0 : Int), ()))))).1, ((List.getD v13 (Int.toNat t12.1) ((0 : Int), ([], ([], ((0 : Int), ()))))).2.1, ((List.getD v13 (Int.toNat t12.1) ((0 : Int), ([], ([], ((0 : Int), ()))))).2.2.1, ((List.getD v13 (Int.toNat t12.1) ((0 : Int), ([], ([], ((0 : Int), ()))))).2.2.2.1, ()))))).bind fun t14 => K (t14.1, ())) else (none)) else (K ((0 : Int), ())))) else (none))) else (none)))))
def Qo (k : Nat) (b : QeE) : Option (Int × Unit) := Qo.c k b some
def Qo.tin : List Ty := [QeC]
def Qo.tout : List Ty := [(.int .i64)]
def Qo.sem (k : Nat) : Qj := Qn Qo.tin Qo.tout fun x => Qo k x.1
noncomputable def Qo.ctx (k : Nat) : Ctx := ⟨Tryz.prog, gam [(160, (QT.sem k)), (72, (Qe.sem k)), (43, (Q0W.sem k)), (161, (Q8.sem k)), (162, (Q0H.sem k)), (91, (Qy.sem k))]⟩
theorem Qo.gok (k : Nat) : ∀ f, Qb Tryz.prog f ((Qo.ctx k).Γ f) := (Q7 (QT.sem_ok k) (Q7 (Qe.sem_ok k) (Q7 (Q0W.sem_ok k) (Q7 (Q8.sem_ok k) (Q7 (Q0H.sem_ok k) (Q7 (Qy.sem_ok k) QE))))))
def Qo.ann (k : Nat) : Ann := .nil
theorem Qo.body (k : Nat) : Q0M (Qo.ctx k) Tryz.f137 (Func.code Tryz.f137) (Qo.ann k) Qo.tin Qo.tout (fun x K => Qo.c k x.1 K) := by
 intro ρ x K; kernel_rfl
theorem Qo.sem_ok (k : Nat) : Qb Tryz.prog 137 (Qo.sem k) :=
 Qs (C := Qo.ctx k) (Qo.gok k) Tryz.mix (c := Func.code Tryz.f137) (ann := Qo.ann k) (tin := Qo.tin) (tout := Qo.tout) (fun x K => Qo.c k x.1 K) Tryz.func137 (by kernel_rfl) (by kernel_rfl) Q3.nil (Qo.body k)
end Go.Am
namespace Go.Am
open Go Go.Proofs
set_option maxRecDepth 100000
def Q1b.c (k : Nat) {ρ : Type} (key : ByteArray) (n : Int) (K : ByteArray × Int × Unit → Option ρ) : Option ρ :=
 bif (decide (n < (0 : Int))) then (K ((⟨(List.toArray [])⟩ : ByteArray), ((1 : Int), ()))) else (bif (decide (n > (32 : Int))) then (K ((⟨(List.toArray [])⟩ : ByteArray), ((1 : Int), ()))) else ((Q0D k key).bind fun t0 => bif (decide (((0 : Int) ≤ (0 : Int)) ∧ (((0 : Int) ≤ n) ∧ (n ≤ ((32 : Nat) : Int))))) then (let v1 : ByteArray := (bytesOf (List.take (Int.toNat (n - (0 : Int))) (List.drop 0 t0.1)))
 K (v1, ((0 : Int), ()))) else (none)))
def Q1b (k : Nat) (key : ByteArray) (n : Int) : Option (ByteArray × Int × Unit) := Q1b.c k key n some
def Q1b.tin : List Ty := [.str, (.int .i64)]
def Q1b.tout : List Ty := [.str, (.int .i64)]
def Q1b.sem (k : Nat) : Qj := Qn Q1b.tin Q1b.tout fun x => Q1b k x.1 x.2.1
noncomputable def Q1b.ctx (k : Nat) : Ctx := ⟨Tryz.prog, gam [(66, (Q0D.sem k))]⟩
theorem Q1b.gok (k : Nat) : ∀ f, Qb Tryz.prog f ((Q1b.ctx k).Γ f) := (Q7 (Q0D.sem_ok k) QE)
def Q1b.ann (k : Nat) : Ann := .nil
theorem Q1b.body (k : Nat) : Q0M (Q1b.ctx k) Tryz.f70 (Func.code Tryz.f70) (Q1b.ann k) Q1b.tin Q1b.tout (fun x K => Q1b.c k x.1 x.2.1 K) := by
 intro ρ x K; kernel_rfl
theorem Q1b.sem_ok (k : Nat) : Qb Tryz.prog 70 (Q1b.sem k) :=
 Qs (C := Q1b.ctx k) (Q1b.gok k) Tryz.mix (c := Func.code Tryz.f70) (ann := Q1b.ann k) (tin := Q1b.tin) (tout := Q1b.tout) (fun x K => Q1b.c k x.1 x.2.1 K) Tryz.func70 (by kernel_rfl) (by kernel_rfl) Q3.nil (Q1b.body k)
end Go.Am
namespace Go.Am
open Go Go.Proofs
set_option maxRecDepth 100000
abbrev Q0f.l0.σ : Type := QeK × Int × Int × QeP × Unit
abbrev Q0f.l0.τ : Type := QeO 
def Q0f.l0.r (k : Nat) {ρ : Type} (x : Q0f.l0.σ) (kn : Q0f.l0.σ → Option ρ) (ke : Q0f.l0.τ → Option ρ) : Option ρ :=
 bif (decide (x.2.2.1 < x.2.1)) then (bif (decide (((0 : Int) ≤ x.2.2.1) ∧ (x.2.2.1 < (((List.length x.1) : Nat) : Int)))) then (bif (Nat.ble (((List.length x.2.2.2.1) + (List.length (List.set (List.replicate 1 ((List.replicate 32 (0 : Int)), ((0 : Int), ()))) 0 ((List.getD x.1 (Int.toNat x.2.2.1) (((List.replicate 32 (0 : Int)), ((0 : Int), ())), (ByteArray.empty, ((0 : Int), ())))).1.1, ((List.getD x.1 (Int.toNat x.2.2.1) (((List.replicate 32 (0 : Int)), ((0 : Int), ())), (ByteArray.empty, ((0 : Int), ())))).1.2.1, ()))))) * 36) 140737488355328) then (let v2 : Int := (IntKind.wrap IntKind.i64 (x.2.2.1 + (1 : Int)))
 kn (x.1, (x.2.1, (v2, ((x.2.2.2.1 ++ (List.set (List.replicate 1 ((List.replicate 32 (0 : Int)), ((0 : Int), ()))) 0 ((List.getD x.1 (Int.toNat x.2.2.1) (((List.replicate 32 (0 : Int)), ((0 : Int), ())), (ByteArray.empty, ((0 : Int), ())))).1.1, ((List.getD x.1 (Int.toNat x.2.2.1) (((List.replicate 32 (0 : Int)), ((0 : Int), ())), (ByteArray.empty, ((0 : Int), ())))).1.2.1, ())))), ()))))) else (none)) else (none)) else (ke (x.2.2.2.1, ()))
def Q0f.l0 (k : Nat) : Nat → Q0f.l0.σ → Option Q0f.l0.τ := Q15 (Q0f.l0.r k)
def Q0f.l0.T : StT := ⟨us 3 ++ .vsl 0 :: us 3 ++ .dat QeJ :: .dat (.int .i64) :: .dat (.int .i64) :: us 10, [.vec QeM]⟩
def Q0f.l0.os : List Out := [⟨(.exit 0), [.mask [3], .auto 0], ⟨us 3 ++ .vsl 0 :: us 16, [.vec QeM]⟩⟩]
def Q0f.c (k : Nat) {ρ : Type} (t : QeI) (K : QeP × Unit → Option ρ) : Option ρ :=
 let v0 : QeK := t.2.1
 let v1 : Int := (((List.length v0) : Nat) : Int)
 (Q0f.l0 k k (v0, (v1, ((0 : Int), ([], ()))))).bind fun t3 => K (t3.1, ())
def Q0f (k : Nat) (t : QeI) : Option QeO := Q0f.c k t some
def Q0f.tin : List Ty := [QeF]
def Q0f.tout : List Ty := [(.sl QeM)]
def Q0f.sem (k : Nat) : Qj := Qn Q0f.tin Q0f.tout fun x => Q0f k x.1
noncomputable def Q0f.ctx (k : Nat) : Ctx := ⟨Tryz.prog, gam []⟩
theorem Q0f.gok (k : Nat) : ∀ f, Qb Tryz.prog f ((Q0f.ctx k).Γ f) := QE
theorem Q0f.l0.round (k : Nat) : Q0V (Q0f.ctx k) (Q0e (Func.code Tryz.f37) [1, 1, 0, 1, 0, 0]) (.nil) Q0f.l0.T [.mask [3, 7, 8, 9], .auto 0] Q0f.l0.os (Q0f.l0.r k) := by
 intro ρ x kn ke; kernel_rfl
theorem Q0f.l0.ok (k : Nat) : StOK 0 Tryz.prog (.loop (Q0e (Func.code Tryz.f37) [1, 1, 0, 1, 0, 0])) (Qv Q0f.l0.T Q0f.l0.os (Q0f.l0 k k)) :=
 Q0X (C := Q0f.ctx k) (Q0f.gok k) Tryz.mix Q3.nil (by kernel_rfl) (by kernel_rfl) (by kernel_rfl) (Q0f.l0.round k) k
def Q0f.ann (k : Nat) : Ann := .node [] none (.nil) (.node [] none (.nil) (.node [] none (.node [] none (.nil) (.node [] none (.node [.mask [3, 7, 8, 9], .auto 0, .own (.slot 3) QeM] (some (Qv Q0f.l0.T Q0f.l0.os (Q0f.l0 k k))) .nil .nil) (.nil))) (.nil)))
theorem Q0f.body (k : Nat) : Q0M (Q0f.ctx k) Tryz.f37 (Func.code Tryz.f37) (Q0f.ann k) Q0f.tin Q0f.tout (fun x K => Q0f.c k x.1 K) := by
 intro ρ x K; kernel_rfl
theorem Q0f.sem_ok (k : Nat) : Qb Tryz.prog 37 (Q0f.sem k) :=
 Qs (C := Q0f.ctx k) (Q0f.gok k) Tryz.mix (c := Func.code Tryz.f37) (ann := Q0f.ann k) (tin := Q0f.tin) (tout := Q0f.tout) (fun x K => Q0f.c k x.1 K) Tryz.func37 (by kernel_rfl) (by kernel_rfl) (Q3.seq Q3.nil (Q3.seq Q3.nil (Q3.seq (Q3.seq Q3.nil (Q3.block (Q3.loop (by kernel_rfl) (Q0f.l0.ok k)))) Q3.nil))) (Q0f.body k)
end Go.Am
namespace Go.Am
open Go Go.Proofs
set_option maxRecDepth 100000
def Q10.c (k : Nat) {ρ : Type} (lock : ByteArray) (key : ByteArray) (K : Bool × Unit → Option ρ) : Option ρ :=
 bif (decide ((((ByteArray.size lock) : Nat) : Int) > (32 : Int))) then (K (false, ())) else ((Q0D k key).bind fun t0 => bif (decide (((0 : Int) ≤ (0 : Int)) ∧ (((0 : Int) ≤ (((ByteArray.size lock) : Nat) : Int)) ∧ ((((ByteArray.size lock) : Nat) : Int) ≤ ((32 : Nat) : Int))))) then (let v1 : ByteArray := (bytesOf (List.take (Int.toNat ((((ByteArray.size lock) : Nat) : Int) - (0 : Int))) (List.drop 0 t0.1)))
 K ((Q3W lock v1), ())) else (none))
def Q10 (k : Nat) (lock : ByteArray) (key : ByteArray) : Option (Bool × Unit) := Q10.c k lock key some
def Q10.tin : List Ty := [.str, .str]
def Q10.tout : List Ty := [.bool]
def Q10.sem (k : Nat) : Qj := Qn Q10.tin Q10.tout fun x => Q10 k x.1 x.2.1
noncomputable def Q10.ctx (k : Nat) : Ctx := ⟨Tryz.prog, gam [(66, (Q0D.sem k))]⟩
theorem Q10.gok (k : Nat) : ∀ f, Qb Tryz.prog f ((Q10.ctx k).Γ f) := (Q7 (Q0D.sem_ok k) QE)
def Q10.ann (k : Nat) : Ann := .nil
theorem Q10.body (k : Nat) : Q0M (Q10.ctx k) Tryz.f112 (Func.code Tryz.f112) (Q10.ann k) Q10.tin Q10.tout (fun x K => Q10.c k x.1 x.2.1 K) := by
 intro ρ x K; kernel_rfl
theorem Q10.sem_ok (k : Nat) : Qb Tryz.prog 112 (Q10.sem k) :=
 Qs (C := Q10.ctx k) (Q10.gok k) Tryz.mix (c := Func.code Tryz.f112) (ann := Q10.ann k) (tin := Q10.tin) (tout := Q10.tout) (fun x K => Q10.c k x.1 x.2.1 K) Tryz.func112 (by kernel_rfl) (by kernel_rfl) Q3.nil (Q10.body k)
end Go.Am
namespace Go.Am
open Go Go.Proofs
set_option maxRecDepth 100000
def Q0n.c (k : Nat) {ρ : Type} (t : QeI) (K : (List Int) × Unit → Option ρ) : Option ρ :=
 (Q0L k (t.1, (t.2.1, (t.2.2.1, (t.2.2.2.1, ()))))).bind fun t0 => let v1 : (List Int) := t0.1
 let v2 : Int := t0.2.1
 K (v1, ())
def Q0n (k : Nat) (t : QeI) : Option ((List Int) × Unit) := Q0n.c k t some
def Q0n.tin : List Ty := [QeF]
def Q0n.tout : List Ty := [(.arr 32 (.int .u8))]
def Q0n.sem (k : Nat) : Qj := Qn Q0n.tin Q0n.tout fun x => Q0n k x.1
noncomputable def Q0n.ctx (k : Nat) : Ctx := ⟨Tryz.prog, gam [(35, (Q0L.sem k))]⟩
theorem Q0n.gok (k : Nat) : ∀ f, Qb Tryz.prog f ((Q0n.ctx k).Γ f) := (Q7 (Q0L.sem_ok k) QE)
def Q0n.ann (k : Nat) : Ann := .nil
theorem Q0n.body (k : Nat) : Q0M (Q0n.ctx k) Tryz.f34 (Func.code Tryz.f34) (Q0n.ann k) Q0n.tin Q0n.tout (fun x K => Q0n.c k x.1 K) := by
 intro ρ x K; kernel_rfl
theorem Q0n.sem_ok (k : Nat) : Qb Tryz.prog 34 (Q0n.sem k) :=
 Qs (C := Q0n.ctx k) (Q0n.gok k) Tryz.mix (c := Func.code Tryz.f34) (ann := Q0n.ann k) (tin := Q0n.tin) (tout := Q0n.tout) (fun x K => Q0n.c k x.1 K) Tryz.func34 (by kernel_rfl) (by kernel_rfl) Q3.nil (Q0n.body k)
end Go.Am
