/- A part of a proof: a machine of abstract values that tells what functions of the program compute, and the plain facts on them. -/
import Derived.Test.YtpcjmcpghhmidaaAm13
import Derived.KernelRfl
import Derived.Test.YtpcjmcpghhmidaaAm8
import Derived.Test.YtpcjmcpghhmidaaAm12
set_option linter.unusedVariables false
set_option linter.unusedSimpArgs false
set_option linter.unnecessarySimpa false
set_option linter.unusedSectionVars false
namespace Go.Am
abbrev Qhq : Ty := (.pair (.int .u32) .unit)
abbrev Qhp : Type := ((List Int) × (Int × Unit))
abbrev Qho : Type := (List (Int × (ByteArray × Unit)))
abbrev Qhn : Ty := (.pair (.arr 32 (.int .u8))  Qhq )
abbrev Qhm : Type := (List ((List Int) × (Int × (ByteArray × (Int × Unit)))))
abbrev Qhl : Type := (List ( Qhp  × (ByteArray × (Int × Unit))))
abbrev Qhk : Ty := (.sl (.pair (.arr 32 (.int .u8)) (.pair (.int .u32) (.pair .str  Qhq ))))
abbrev Qhj : Type := (Int × ( Qhm  × ( Qho  × (Int × Unit))))
abbrev Qhi : Type := ( Qhj  × Unit)
abbrev Qhh : Type := (Int × ( Qhl  × ( Qho  × (Int × Unit))))
abbrev Qhg : Ty := (.pair (.int .u32) (.pair  Qhk  (.pair (.sl (.pair (.int .u64) (.pair .str .unit)))  Qhq )))
abbrev Qhf : Ty := (.pair (.int .u32) (.pair (.sl (.pair  Qhn  (.pair .str  Qhq ))) (.pair (.sl (.pair (.int .u64) (.pair .str .unit)))  Qhq )))
end Go.Am
namespace Go.Am
open Go Go.Proofs
set_option maxRecDepth 100000
abbrev Q0z.l0.σ : Type := Int × Qho × Int × Int × Unit
abbrev Q0z.l0.τ : Type := (Int × Int × Unit) ⊕ (Int × Unit)
def Q0z.l0.r (k : Nat) {ρ : Type} (x : Q0z.l0.σ) (kn : Q0z.l0.σ → Option ρ) (ke : Q0z.l0.τ → Option ρ) : Option ρ :=
 bif (decide (x.2.2.2.1 < x.2.2.1)) then (bif (decide (((0 : Int) ≤ x.2.2.2.1) ∧ (x.2.2.2.1 < (((List.length x.2.1) : Nat) : Int)))) then (let v2 : Int := (List.getD x.2.1 (Int.toNat x.2.2.2.1) ((0 : Int), (ByteArray.empty, ()))).1
 bif (decide (v2 > (1000000 : Int))) then (ke (.inl ((0 : Int), ((103 : Int), ())))) else (let v3 : Int := (List.getD x.2.1 (Int.toNat x.2.2.2.1) ((0 : Int), (ByteArray.empty, ()))).1
 let v4 : Int := (IntKind.wrap IntKind.u64 (x.1 + v3))
 bif (decide (v4 > (1000000 : Int))) then (ke (.inl ((0 : Int), ((103 : Int), ())))) else (let v5 : Int := (List.getD x.2.1 (Int.toNat x.2.2.2.1) ((0 : Int), (ByteArray.empty, ()))).1
 let v6 : Int := (IntKind.wrap IntKind.u64 (x.1 + v5))
 let v7 : Int := (IntKind.wrap IntKind.i64 (x.2.2.2.1 + (1 : Int)))
 kn (v6, (x.2.1, (x.2.2.1, (v7, ()))))))) else (none)) else (ke (.inr (x.1, ())))
def Q0z.l0 (k : Nat) : Nat → Q0z.l0.σ → Option Q0z.l0.τ := Q0Q (Q0z.l0.r k)
def Q0z.l0.T : StT := ⟨us 4 ++ .dat (.int .u64) :: us 3 ++ .dat (.sl (.pair (.int .u64) (.pair .str .unit))) :: .dat (.int .i64) :: .dat (.int .i64) :: us 19, []⟩
def Q0z.l0.os : List Out := [⟨.ret, [.mask [2, 3], .auto 0], ⟨us 2 ++ .dat (.int .u64) :: .dat (.int .i64) :: us 26, []⟩⟩, ⟨(.exit 0), [.mask [4], .auto 0], ⟨us 4 ++ .dat (.int .u64) :: us 25, []⟩⟩]
def Q0z.c (k : Nat) {ρ : Type} (t : Qhh) (K : Int × Int × Unit → Option ρ) : Option ρ :=
 let v0 : Qho := t.2.2.1
 let v1 : Int := (((List.length v0) : Nat) : Int)
 (Q0z.l0 k k ((0 : Int), (v0, (v1, ((0 : Int), ()))))).bind fun t8 => (match t8 with | .inl t9 => (K (t9.1, (t9.2.1, ()))) | .inr (t10) => (K (t10.1, ((0 : Int), ()))))
def Q0z (k : Nat) (t : Qhh) : Option (Int × Int × Unit) := Q0z.c k t some
def Q0z.tin : List Ty := [Qhf]
def Q0z.tout : List Ty := [(.int .u64), (.int .i64)]
def Q0z.sem (k : Nat) : QY := Q04 Q0z.tin Q0z.tout fun x => Q0z k x.1
noncomputable def Q0z.ctx (k : Nat) : Ctx := ⟨Try.prog, gam []⟩
theorem Q0z.gok (k : Nat) : ∀ f, QG Try.prog f ((Q0z.ctx k).Γ f) := Q0e
theorem Q0z.l0.round (k : Nat) : Q0L (Q0z.ctx k) (QP (Func.code Try.f34) [1, 1, 0, 1, 0, 0]) (.nil) Q0z.l0.T [.mask [4, 8, 9, 10], .auto 0] Q0z.l0.os (Q0z.l0.r k) := by
 intro ρ x kn ke; kernel_rfl
theorem Q0z.l0.ok (k : Nat) : StOK 0 Try.prog (.loop (QP (Func.code Try.f34) [1, 1, 0, 1, 0, 0])) (Qx Q0z.l0.T Q0z.l0.os (Q0z.l0 k k)) :=
 Q0M (C := Q0z.ctx k) (Q0z.gok k) Try.mix Q3.nil (by kernel_rfl) (by kernel_rfl) (by kernel_rfl) (Q0z.l0.round k) k
def Q0z.ann (k : Nat) : Ann := .node [] none (.nil) (.node [] none (.nil) (.node [] none (.node [] none (.nil) (.node [] none (.node [.mask [4, 8, 9, 10], .auto 0] (some (Qx Q0z.l0.T Q0z.l0.os (Q0z.l0 k k))) .nil .nil) (.nil))) (.nil)))
theorem Q0z.body (k : Nat) : Q0K (Q0z.ctx k) Try.f34 (Func.code Try.f34) (Q0z.ann k) Q0z.tin Q0z.tout (fun x K => Q0z.c k x.1 K) := by
 intro ρ x K; kernel_rfl
theorem Q0z.sem_ok (k : Nat) : QG Try.prog 34 (Q0z.sem k) :=
 QT (C := Q0z.ctx k) (Q0z.gok k) Try.mix (c := Func.code Try.f34) (ann := Q0z.ann k) (tin := Q0z.tin) (tout := Q0z.tout) (fun x K => Q0z.c k x.1 K) Try.func34 (by kernel_rfl) (by kernel_rfl) (Q3.seq Q3.nil (Q3.seq Q3.nil (Q3.seq (Q3.seq Q3.nil (Q3.block (Q3.loop (by kernel_rfl) (Q0z.l0.ok k)))) Q3.nil))) (Q0z.body k)
abbrev Qu.l0.σ : Type := Int × Qho × Int × Int × Unit
abbrev Qu.l0.τ : Type := (Int × Int × Unit) ⊕ (Int × Unit)
def Qu.l0.r (k : Nat) {ρ : Type} (x : Qu.l0.σ) (kn : Qu.l0.σ → Option ρ) (ke : Qu.l0.τ → Option ρ) : Option ρ :=
 bif (decide (x.2.2.2.1 < x.2.2.1)) then (bif (decide (((0 : Int) ≤ x.2.2.2.1) ∧ (x.2.2.2.1 < (((List.length x.2.1) : Nat) : Int)))) then (let v2 : Int := (List.getD x.2.1 (Int.toNat x.2.2.2.1) ((0 : Int), (ByteArray.empty, ()))).1
 bif (decide (v2 > (1000000 : Int))) then (ke (.inl ((0 : Int), ((103 : Int), ())))) else (let v3 : Int := (List.getD x.2.1 (Int.toNat x.2.2.2.1) ((0 : Int), (ByteArray.empty, ()))).1
 let v4 : Int := (IntKind.wrap IntKind.u64 (x.1 + v3))
 bif (decide (v4 > (1000000 : Int))) then (ke (.inl ((0 : Int), ((103 : Int), ())))) else (let v5 : Int := (List.getD x.2.1 (Int.toNat x.2.2.2.1) ((0 : Int), (ByteArray.empty, ()))).1
 let v6 : Int := (IntKind.wrap IntKind.u64 (x.1 + v5))
 let v7 : Int := (IntKind.wrap IntKind.i64 (x.2.2.2.1 + (1 : Int)))
 kn (v6, (x.2.1, (x.2.2.1, (v7, ()))))))) else (none)) else (ke (.inr (x.1, ())))
def Qu.l0 (k : Nat) : Nat → Qu.l0.σ → Option Qu.l0.τ := Q0Q (Qu.l0.r k)
def Qu.l0.T : StT := ⟨us 4 ++ .dat (.int .u64) :: us 3 ++ .dat (.sl (.pair (.int .u64) (.pair .str .unit))) :: .dat (.int .i64) :: .dat (.int .i64) :: us 19, []⟩
def Qu.l0.os : List Out := [⟨.ret, [.mask [2, 3], .auto 0], ⟨us 2 ++ .dat (.int .u64) :: .dat (.int .i64) :: us 26, []⟩⟩, ⟨(.exit 0), [.mask [4], .auto 0], ⟨us 4 ++ .dat (.int .u64) :: us 25, []⟩⟩]
def Qu.c (k : Nat) {ρ : Type} (t : Qhj) (K : Int × Int × Unit → Option ρ) : Option ρ :=
 let v0 : Qho := t.2.2.1
 let v1 : Int := (((List.length v0) : Nat) : Int)
 (Qu.l0 k k ((0 : Int), (v0, (v1, ((0 : Int), ()))))).bind fun t8 => (match t8 with | .inl t9 => (K (t9.1, (t9.2.1, ()))) | .inr (t10) => (K (t10.1, ((0 : Int), ()))))
def Qu (k : Nat) (t : Qhj) : Option (Int × Int × Unit) := Qu.c k t some
def Qu.tin : List Ty := [Qhg]
def Qu.tout : List Ty := [(.int .u64), (.int .i64)]
def Qu.sem (k : Nat) : QY := Q04 Qu.tin Qu.tout fun x => Qu k x.1
noncomputable def Qu.ctx (k : Nat) : Ctx := ⟨Try.prog, gam []⟩
theorem Qu.gok (k : Nat) : ∀ f, QG Try.prog f ((Qu.ctx k).Γ f) := Q0e
theorem Qu.l0.round (k : Nat) : Q0L (Qu.ctx k) (QP (Func.code Try.f35) [1, 1, 0, 1, 0, 0]) (.nil) Qu.l0.T [.mask [4, 8, 9, 10], .auto 0] Qu.l0.os (Qu.l0.r k) := by
 intro ρ x kn ke; kernel_rfl
theorem Qu.l0.ok (k : Nat) : StOK 0 Try.prog (.loop (QP (Func.code Try.f35) [1, 1, 0, 1, 0, 0])) (Qx Qu.l0.T Qu.l0.os (Qu.l0 k k)) :=
 Q0M (C := Qu.ctx k) (Qu.gok k) Try.mix Q3.nil (by kernel_rfl) (by kernel_rfl) (by kernel_rfl) (Qu.l0.round k) k
def Qu.ann (k : Nat) : Ann := .node [] none (.nil) (.node [] none (.nil) (.node [] none (.node [] none (.nil) (.node [] none (.node [.mask [4, 8, 9, 10], .auto 0] (some (Qx Qu.l0.T Qu.l0.os (Qu.l0 k k))) .nil .nil) (.nil))) (.nil)))
theorem Qu.body (k : Nat) : Q0K (Qu.ctx k) Try.f35 (Func.code Try.f35) (Qu.ann k) Qu.tin Qu.tout (fun x K => Qu.c k x.1 K) := by
 intro ρ x K; kernel_rfl
theorem Qu.sem_ok (k : Nat) : QG Try.prog 35 (Qu.sem k) :=
 QT (C := Qu.ctx k) (Qu.gok k) Try.mix (c := Func.code Try.f35) (ann := Qu.ann k) (tin := Qu.tin) (tout := Qu.tout) (fun x K => Qu.c k x.1 K) Try.func35 (by kernel_rfl) (by kernel_rfl) (Q3.seq Q3.nil (Q3.seq Q3.nil (Q3.seq (Q3.seq Q3.nil (Q3.block (Q3.loop (by kernel_rfl) (Qu.l0.ok k)))) Q3.nil))) (Qu.body k)
def Q1h.c (k : Nat) {ρ : Type}  (K : Qhp × Unit → Option ρ) : Option ρ :=
 K (((List.replicate 32 (0 : Int)), ((4294967295 : Int), ())), ())
def Q1h (k : Nat)  : Option (Qhp × Unit) := Q1h.c k  some
def Q1h.tin : List Ty := []
def Q1h.tout : List Ty := [Qhn]
def Q1h.sem (k : Nat) : QY := Q04 Q1h.tin Q1h.tout fun x => Q1h k 
noncomputable def Q1h.ctx (k : Nat) : Ctx := ⟨Try.prog, gam []⟩
theorem Q1h.gok (k : Nat) : ∀ f, QG Try.prog f ((Q1h.ctx k).Γ f) := Q0e
def Q1h.ann (k : Nat) : Ann := .nil
theorem Q1h.body (k : Nat) : Q0K (Q1h.ctx k) Try.f85 (Func.code Try.f85) (Q1h.ann k) Q1h.tin Q1h.tout (fun x K => Q1h.c k  K) := by
 intro ρ x K; kernel_rfl
theorem Q1h.sem_ok (k : Nat) : QG Try.prog 85 (Q1h.sem k) :=
 QT (C := Q1h.ctx k) (Q1h.gok k) Try.mix (c := Func.code Try.f85) (ann := Q1h.ann k) (tin := Q1h.tin) (tout := Q1h.tout) (fun x K => Q1h.c k  K) Try.func85 (by kernel_rfl) (by kernel_rfl) Q3.nil (Q1h.body k)
def Q16.c (k : Nat) {ρ : Type} (t : Qhh) (K : Bool × Unit → Option ρ) : Option ρ :=
 let v0 : Qhl := t.2.1
 let v1 : Int := (((List.length v0) : Nat) : Int)
 bif (v1 == (1 : Int)) then (let v2 : Qhl := t.2.1
 bif (decide (((0 : Int) ≤ (0 : Int)) ∧ ((0 : Int) < (((List.length v2) : Nat) : Int)))) then ((Q1h k ).bind fun t3 => K (((decide ((List.getD v2 0 (((List.replicate 32 (0 : Int)), ((0 : Int), ())), (ByteArray.empty, ((0 : Int), ())))).1.1 = t3.1.1)) && (((List.getD v2 0 (((List.replicate 32 (0 : Int)), ((0 : Int), ())), (ByteArray.empty, ((0 : Int), ())))).1.2.1 == t3.1.2.1) && true)), ())) else (none)) else (K (false, ()))
def Q16 (k : Nat) (t : Qhh) : Option (Bool × Unit) := Q16.c k t some
def Q16.tin : List Ty := [Qhf]
def Q16.tout : List Ty := [.bool]
def Q16.sem (k : Nat) : QY := Q04 Q16.tin Q16.tout fun x => Q16 k x.1
noncomputable def Q16.ctx (k : Nat) : Ctx := ⟨Try.prog, gam [(85, (Q1h.sem k))]⟩
theorem Q16.gok (k : Nat) : ∀ f, QG Try.prog f ((Q16.ctx k).Γ f) := (Qq (Q1h.sem_ok k) Q0e)
def Q16.ann (k : Nat) : Ann := .nil
theorem Q16.body (k : Nat) : Q0K (Q16.ctx k) Try.f38 (Func.code Try.f38) (Q16.ann k) Q16.tin Q16.tout (fun x K => Q16.c k x.1 K) := by
 intro ρ x K; kernel_rfl
theorem Q16.sem_ok (k : Nat) : QG Try.prog 38 (Q16.sem k) :=
 QT (C := Q16.ctx k) (Q16.gok k) Try.mix (c := Func.code Try.f38) (ann := Q16.ann k) (tin := Q16.tin) (tout := Q16.tout) (fun x K => Q16.c k x.1 K) Try.func38 (by kernel_rfl) (by kernel_rfl) Q3.nil (Q16.body k)
abbrev QW.p0.σ : Type := Qhh × Unit
abbrev QW.p0.τ : Type := (Int × Unit) ⊕ (Qhh × Unit)
def QW.p0.r (k : Nat) {ρ : Type} (x : QW.p0.σ) (K : QW.p0.τ → Option ρ) : Option ρ :=
 let v3 : Qhl := x.1.2.1
 let v4 : Int := (((List.length v3) : Nat) : Int)
 bif (v4 == (0 : Int)) then (K (.inl ((102 : Int), ()))) else (let v5 : Qho := x.1.2.2.1
 let v6 : Int := (((List.length v5) : Nat) : Int)
 bif (v6 == (0 : Int)) then (K (.inl ((102 : Int), ()))) else (K (.inr ((x.1.1, (x.1.2.1, (x.1.2.2.1, (x.1.2.2.2.1, ())))), ()))))
def QW.p0 (k : Nat) (x : QW.p0.σ) : Option QW.p0.τ := QW.p0.r k x some
def QW.p0.T : StT := ⟨us 1 ++ .ptr 0 [] :: us 70, [.dat Qhf]⟩
def QW.p0.os : List Out := [⟨.ret, [.mask [2], .auto 0], ⟨us 2 ++ .dat (.int .i64) :: us 69, []⟩⟩, ⟨.normal, [.mask [1], .auto 0], ⟨us 1 ++ .ptr 0 [] :: us 70, [.dat Qhf]⟩⟩]
abbrev QW.l1.σ : Type := Qhl × Int × Int × Qhh × (List (Qhp × Bool)) × Unit
abbrev QW.l1.τ : Type := (Int × Unit) ⊕ (Qhh × (List (Qhp × Bool)) × Unit)
def QW.l1.r (k : Nat) {ρ : Type} (x : QW.l1.σ) (kn : QW.l1.σ → Option ρ) (ke : QW.l1.τ → Option ρ) : Option ρ :=
 bif (decide (x.2.2.1 < x.2.1)) then (bif (decide (((0 : Int) ≤ x.2.2.1) ∧ (x.2.2.1 < (((List.length x.1) : Nat) : Int)))) then (bif (Option.getD (mget (Ty.pair (Ty.arr 32 (Ty.int IntKind.u8)) (Ty.pair (Ty.int IntKind.u32) Ty.unit)) ((List.getD x.1 (Int.toNat x.2.2.1) (((List.replicate 32 (0 : Int)), ((0 : Int), ())), (ByteArray.empty, ((0 : Int), ())))).1.1, ((List.getD x.1 (Int.toNat x.2.2.1) (((List.replicate 32 (0 : Int)), ((0 : Int), ())), (ByteArray.empty, ((0 : Int), ())))).1.2.1, ())) x.2.2.2.2.1) false) then (ke (.inl ((104 : Int), ()))) else (let v15 : Int := (IntKind.wrap IntKind.i64 (x.2.2.1 + (1 : Int)))
 kn (x.1, (x.2.1, (v15, ((x.2.2.2.1.1, (x.2.2.2.1.2.1, (x.2.2.2.1.2.2.1, (x.2.2.2.1.2.2.2.1, ())))), ((mset (Ty.pair (Ty.arr 32 (Ty.int IntKind.u8)) (Ty.pair (Ty.int IntKind.u32) Ty.unit)) ((List.getD x.1 (Int.toNat x.2.2.1) (((List.replicate 32 (0 : Int)), ((0 : Int), ())), (ByteArray.empty, ((0 : Int), ())))).1.1, ((List.getD x.1 (Int.toNat x.2.2.1) (((List.replicate 32 (0 : Int)), ((0 : Int), ())), (ByteArray.empty, ((0 : Int), ())))).1.2.1, ())) true x.2.2.2.2.1), ()))))))) else (none)) else (ke (.inr ((x.2.2.2.1.1, (x.2.2.2.1.2.1, (x.2.2.2.1.2.2.1, (x.2.2.2.1.2.2.2.1, ())))), (x.2.2.2.2.1, ()))))
def QW.l1 (k : Nat) : Nat → QW.l1.σ → Option QW.l1.τ := Q0Q (QW.l1.r k)
def QW.l1.T : StT := ⟨us 1 ++ .ptr 0 [] :: us 5 ++ .mp 1 :: us 31 ++ .dat (.sl (.pair Qhn (.pair .str Qhq))) :: .dat (.int .i64) :: .dat (.int .i64) :: us 30, [.dat Qhf, .mpd Qhn .bool]⟩
def QW.l1.os : List Out := [⟨.ret, [.mask [2], .auto 0], ⟨us 2 ++ .dat (.int .i64) :: us 69, []⟩⟩, ⟨(.exit 0), [.mask [1, 7], .auto 0], ⟨us 1 ++ .ptr 0 [] :: us 5 ++ .mp 1 :: us 64, [.dat Qhf, .mpd Qhn .bool]⟩⟩]
def QW.c (k : Nat) {ρ : Type} (t : Qhh) (K : Int × Unit → Option ρ) : Option ρ :=
 (Qh k (t.1, (t.2.1, (t.2.2.1, (t.2.2.2.1, ()))))).bind fun t0 => let v1 : ByteArray := t0.1
 let v2 : Int := t0.2.1
 bif (v2 != (0 : Int)) then (K (v2, ())) else ((QW.p0 k ((t.1, (t.2.1, (t.2.2.1, (t.2.2.2.1, ())))), ())).bind fun t7 => (match t7 with | .inl t8 => (K (t8.1, ())) | .inr (t9) => ((Q0z k (t9.1.1, (t9.1.2.1, (t9.1.2.2.1, (t9.1.2.2.2.1, ()))))).bind fun t10 => let v11 : Int := t10.1
 let v12 : Int := t10.2.1
 bif (v12 != (0 : Int)) then (K (v12, ())) else (let v13 : Qhl := t9.1.2.1
 let v14 : Int := (((List.length v13) : Nat) : Int)
 (QW.l1 k k (v13, (v14, ((0 : Int), ((t9.1.1, (t9.1.2.1, (t9.1.2.2.1, (t9.1.2.2.2.1, ())))), ([], ())))))).bind fun t16 => (match t16 with | .inl t17 => (K (t17.1, ())) | .inr (t18) => ((Q16 k (t18.1.1, (t18.1.2.1, (t18.1.2.2.1, (t18.1.2.2.2.1, ()))))).bind fun t19 => bif t19.1 then (let v20 : Qhl := t18.1.2.1
 bif (decide (((0 : Int) ≤ (0 : Int)) ∧ ((0 : Int) < (((List.length v20) : Nat) : Int)))) then (let v21 : ByteArray := (List.getD v20 0 (((List.replicate 32 (0 : Int)), ((0 : Int), ())), (ByteArray.empty, ((0 : Int), ())))).2.1
 bif (decide ((((ByteArray.size v21) : Nat) : Int) < (2 : Int))) then (K ((105 : Int), ())) else (bif (decide ((((ByteArray.size v21) : Nat) : Int) > (100 : Int))) then (K ((105 : Int), ())) else (K ((0 : Int), ())))) else (none)) else ((Q1h k ).bind fun t22 => bif (Option.getD (mget (Ty.pair (Ty.arr 32 (Ty.int IntKind.u8)) (Ty.pair (Ty.int IntKind.u32) Ty.unit)) (t22.1.1, (t22.1.2.1, ())) t18.2.1) false) then (K ((106 : Int), ())) else (K ((0 : Int), ())))))))))
def QW (k : Nat) (t : Qhh) : Option (Int × Unit) := QW.c k t some
def QW.tin : List Ty := [Qhf]
def QW.tout : List Ty := [(.int .i64)]
def QW.sem (k : Nat) : QY := Q04 QW.tin QW.tout fun x => QW k x.1
noncomputable def QW.ctx (k : Nat) : Ctx := ⟨Try.prog, gam [(32, (Qh.sem k)), (34, (Q0z.sem k)), (38, (Q16.sem k)), (85, (Q1h.sem k))]⟩
theorem QW.gok (k : Nat) : ∀ f, QG Try.prog f ((QW.ctx k).Γ f) := (Qq (Qh.sem_ok k) (Qq (Q0z.sem_ok k) (Qq (Q16.sem_ok k) (Qq (Q1h.sem_ok k) Q0e))))
theorem QW.p0.is (k : Nat) : Q1E (QW.ctx k) (QP (Func.code Try.f36) [1, 1, 0]) (.nil) QW.p0.T QW.p0.os (QW.p0.r k) := by
 intro ρ x K; kernel_rfl
theorem QW.p0.ok (k : Nat) : StOK 0 Try.prog (QP (Func.code Try.f36) [1, 1, 0]) (Qx QW.p0.T QW.p0.os (QW.p0 k)) :=
 Q1r (C := QW.ctx k) (T := QW.p0.T) (os := QW.p0.os) (QW.gok k) Try.mix (fun x K => QW.p0.r k x K) Q3.nil (by kernel_rfl) (by kernel_rfl) (QW.p0.is k)
theorem QW.l1.round (k : Nat) : Q0L (QW.ctx k) (QP (Func.code Try.f36) [1, 1, 1, 1, 1, 0, 1, 0, 0]) (.nil) QW.l1.T [.mask [1, 7, 39, 40, 41], .auto 0] QW.l1.os (QW.l1.r k) := by
 intro ρ x kn ke; kernel_rfl
theorem QW.l1.ok (k : Nat) : StOK 0 Try.prog (.loop (QP (Func.code Try.f36) [1, 1, 1, 1, 1, 0, 1, 0, 0])) (Qx QW.l1.T QW.l1.os (QW.l1 k k)) :=
 Q0M (C := QW.ctx k) (QW.gok k) Try.mix Q3.nil (by kernel_rfl) (by kernel_rfl) (by kernel_rfl) (QW.l1.round k) k
def QW.ann (k : Nat) : Ann := .node [] none (.nil) (.node [] none (.nil) (.node [] none (.node [.mask [1], .auto 0] (some (Qx QW.p0.T QW.p0.os (QW.p0 k))) .nil .nil) (.node [] none (.nil) (.node [] none (.nil) (.node [] none (.node [] none (.nil) (.node [] none (.node [.mask [1, 7, 39, 40, 41], .auto 0] (some (Qx QW.l1.T QW.l1.os (QW.l1 k k))) .nil .nil) (.nil))) (.nil))))))
theorem QW.body (k : Nat) : Q0K (QW.ctx k) Try.f36 (Func.code Try.f36) (QW.ann k) QW.tin QW.tout (fun x K => QW.c k x.1 K) := by
 intro ρ x K; kernel_rfl
theorem QW.sem_ok (k : Nat) : QG Try.prog 36 (QW.sem k) :=
 QT (C := QW.ctx k) (QW.gok k) Try.mix (c := Func.code Try.f36) (ann := QW.ann k) (tin := QW.tin) (tout := QW.tout) (fun x K => QW.c k x.1 K) Try.func36 (by kernel_rfl) (by kernel_rfl) (Q3.seq Q3.nil (Q3.seq Q3.nil (Q3.seq (Q3.loop (by kernel_rfl) (QW.p0.ok k)) (Q3.seq Q3.nil (Q3.seq Q3.nil (Q3.seq (Q3.seq Q3.nil (Q3.block (Q3.loop (by kernel_rfl) (QW.l1.ok k)))) Q3.nil)))))) (QW.body k)
def Q00.c (k : Nat) {ρ : Type} (t : Qhj) (K : Bool × Unit → Option ρ) : Option ρ :=
 let v0 : Qhm := t.2.1
 let v1 : Int := (((List.length v0) : Nat) : Int)
 bif (v1 == (1 : Int)) then (let v2 : Qhm := t.2.1
 bif (decide (((0 : Int) ≤ (0 : Int)) ∧ ((0 : Int) < (((List.length v2) : Nat) : Int)))) then (let v3 : (List Int) := (List.getD v2 0 ((List.replicate 32 (0 : Int)), ((0 : Int), (ByteArray.empty, ((0 : Int), ()))))).1
 let v4 : (List Int) := (List.replicate 32 (0 : Int))
 bif (decide (v3 = v4)) then (let v5 : Qhm := t.2.1
 bif (decide (((0 : Int) ≤ (0 : Int)) ∧ ((0 : Int) < (((List.length v5) : Nat) : Int)))) then (let v6 : Int := (List.getD v5 0 ((List.replicate 32 (0 : Int)), ((0 : Int), (ByteArray.empty, ((0 : Int), ()))))).2.1
 K ((v6 == (4294967295 : Int)), ())) else (none)) else (K (false, ()))) else (none)) else (K (false, ()))
def Q00 (k : Nat) (t : Qhj) : Option (Bool × Unit) := Q00.c k t some
def Q00.tin : List Ty := [Qhg]
def Q00.tout : List Ty := [.bool]
def Q00.sem (k : Nat) : QY := Q04 Q00.tin Q00.tout fun x => Q00 k x.1
noncomputable def Q00.ctx (k : Nat) : Ctx := ⟨Try.prog, gam []⟩
theorem Q00.gok (k : Nat) : ∀ f, QG Try.prog f ((Q00.ctx k).Γ f) := Q0e
def Q00.ann (k : Nat) : Ann := .nil
theorem Q00.body (k : Nat) : Q0K (Q00.ctx k) Try.f39 (Func.code Try.f39) (Q00.ann k) Q00.tin Q00.tout (fun x K => Q00.c k x.1 K) := by
 intro ρ x K; kernel_rfl
theorem Q00.sem_ok (k : Nat) : QG Try.prog 39 (Q00.sem k) :=
 QT (C := Q00.ctx k) (Q00.gok k) Try.mix (c := Func.code Try.f39) (ann := Q00.ann k) (tin := Q00.tin) (tout := Q00.tout) (fun x K => Q00.c k x.1 K) Try.func39 (by kernel_rfl) (by kernel_rfl) Q3.nil (Q00.body k)
abbrev Q2.p0.σ : Type := Qhj × Unit
abbrev Q2.p0.τ : Type := (Int × Unit) ⊕ Qhi 
def Q2.p0.r (k : Nat) {ρ : Type} (x : Q2.p0.σ) (K : Q2.p0.τ → Option ρ) : Option ρ :=
 let v1 : Qhm := x.1.2.1
 let v2 : Int := (((List.length v1) : Nat) : Int)
 bif (v2 == (0 : Int)) then (K (.inl ((102 : Int), ()))) else (let v3 : Qho := x.1.2.2.1
 let v4 : Int := (((List.length v3) : Nat) : Int)
 bif (v4 == (0 : Int)) then (K (.inl ((102 : Int), ()))) else (K (.inr ((x.1.1, (x.1.2.1, (x.1.2.2.1, (x.1.2.2.2.1, ())))), ()))))
def Q2.p0 (k : Nat) (x : Q2.p0.σ) : Option Q2.p0.τ := Q2.p0.r k x some
def Q2.p0.T : StT := ⟨us 1 ++ .ptr 0 [] :: us 96, [.dat Qhg]⟩
def Q2.p0.os : List Out := [⟨.ret, [.mask [2], .auto 0], ⟨us 2 ++ .dat (.int .i64) :: us 95, []⟩⟩, ⟨.normal, [.mask [1], .auto 0], ⟨us 1 ++ .ptr 0 [] :: us 96, [.dat Qhg]⟩⟩]
abbrev Q2.l2.σ : Type := Qhm × Int × Int × Qhm × Int × Int × Qhj × ((List Int) × (Int × (ByteArray × (Int × Unit)))) × Unit
abbrev Q2.l2.τ : Type := (Int × Unit) ⊕ (Qhm × Int × Int × Qhj × Unit)
def Q2.l2.r (k : Nat) {ρ : Type} (x : Q2.l2.σ) (kn : Q2.l2.σ → Option ρ) (ke : Q2.l2.τ → Option ρ) : Option ρ :=
 bif (decide (x.2.2.2.2.2.1 < x.2.2.2.2.1)) then (bif (decide (((0 : Int) ≤ x.2.2.2.2.2.1) ∧ (x.2.2.2.2.2.1 < (((List.length x.2.2.2.1) : Nat) : Int)))) then (let v16 : (List Int) := x.2.2.2.2.2.2.2.1.1
 let v17 : (List Int) := (List.getD x.2.2.2.1 (Int.toNat x.2.2.2.2.2.1) ((List.replicate 32 (0 : Int)), ((0 : Int), (ByteArray.empty, ((0 : Int), ()))))).1
 bif (decide (v16 = v17)) then (let v18 : Int := x.2.2.2.2.2.2.2.1.2.1
 let v19 : Int := (List.getD x.2.2.2.1 (Int.toNat x.2.2.2.2.2.1) ((List.replicate 32 (0 : Int)), ((0 : Int), (ByteArray.empty, ((0 : Int), ()))))).2.1
 bif (v18 == v19) then (ke (.inl ((104 : Int), ()))) else (let v20 : Int := (IntKind.wrap IntKind.i64 (x.2.2.2.2.2.1 + (1 : Int)))
 kn (x.1, (x.2.1, (x.2.2.1, (x.2.2.2.1, (x.2.2.2.2.1, (v20, ((x.2.2.2.2.2.2.1.1, (x.2.2.2.2.2.2.1.2.1, (x.2.2.2.2.2.2.1.2.2.1, (x.2.2.2.2.2.2.1.2.2.2.1, ())))), ((x.2.2.2.2.2.2.2.1.1, (x.2.2.2.2.2.2.2.1.2.1, (x.2.2.2.2.2.2.2.1.2.2.1, (x.2.2.2.2.2.2.2.1.2.2.2.1, ())))), ())))))))))) else (let v21 : Int := (IntKind.wrap IntKind.i64 (x.2.2.2.2.2.1 + (1 : Int)))
 kn (x.1, (x.2.1, (x.2.2.1, (x.2.2.2.1, (x.2.2.2.2.1, (v21, ((x.2.2.2.2.2.2.1.1, (x.2.2.2.2.2.2.1.2.1, (x.2.2.2.2.2.2.1.2.2.1, (x.2.2.2.2.2.2.1.2.2.2.1, ())))), ((x.2.2.2.2.2.2.2.1.1, (x.2.2.2.2.2.2.2.1.2.1, (x.2.2.2.2.2.2.2.1.2.2.1, (x.2.2.2.2.2.2.2.1.2.2.2.1, ())))), ())))))))))) else (none)) else (ke (.inr (x.1, (x.2.1, (x.2.2.1, ((x.2.2.2.2.2.2.1.1, (x.2.2.2.2.2.2.1.2.1, (x.2.2.2.2.2.2.1.2.2.1, (x.2.2.2.2.2.2.1.2.2.2.1, ())))), ()))))))
def Q2.l2 (k : Nat) : Nat → Q2.l2.σ → Option Q2.l2.τ := Q0Q (Q2.l2.r k)
def Q2.l2.T : StT := ⟨us 1 ++ .ptr 0 [] :: us 5 ++ .ptr 1 [] :: us 29 ++ .dat Qhk :: .dat (.int .i64) :: .dat (.int .i64) :: us 7 ++ .dat Qhk :: .dat (.int .i64) :: .dat (.int .i64) :: us 48, [.dat Qhg, .dat (.pair (.arr 32 (.int .u8)) (.pair (.int .u32) (.pair .str Qhq)))]⟩
def Q2.l2.os : List Out := [⟨.ret, [.mask [2], .auto 0], ⟨us 2 ++ .dat (.int .i64) :: us 95, []⟩⟩, ⟨(.exit 2), [.mask [1, 37, 38, 39], .auto 0], ⟨us 1 ++ .ptr 0 [] :: us 35 ++ .dat Qhk :: .dat (.int .i64) :: .dat (.int .i64) :: us 58, [.dat Qhg]⟩⟩]
abbrev Q2.l1.σ : Type := Qhm × Int × Int × Qhj × Unit
abbrev Q2.l1.τ : Type := (Int × Unit) ⊕ Qhi 
def Q2.l1.r (k : Nat) {ρ : Type} (x : Q2.l1.σ) (kn : Q2.l1.σ → Option ρ) (ke : Q2.l1.τ → Option ρ) : Option ρ :=
 bif (decide (x.2.2.1 < x.2.1)) then (bif (decide (((0 : Int) ≤ x.2.2.1) ∧ (x.2.2.1 < (((List.length x.1) : Nat) : Int)))) then (let v13 : Qhm := x.2.2.2.1.2.1
 bif (decide (((0 : Int) ≤ (0 : Int)) ∧ (((0 : Int) ≤ x.2.2.1) ∧ (x.2.2.1 ≤ (((List.length v13) : Nat) : Int))))) then (let v14 : Qhm := (List.drop 0 (List.take (Int.toNat x.2.2.1) v13))
 let v15 : Int := (((List.length v14) : Nat) : Int)
 (Q2.l2 k k (x.1, (x.2.1, (x.2.2.1, (v14, (v15, ((0 : Int), ((x.2.2.2.1.1, (x.2.2.2.1.2.1, (x.2.2.2.1.2.2.1, (x.2.2.2.1.2.2.2.1, ())))), (((List.getD x.1 (Int.toNat x.2.2.1) ((List.replicate 32 (0 : Int)), ((0 : Int), (ByteArray.empty, ((0 : Int), ()))))).1, ((List.getD x.1 (Int.toNat x.2.2.1) ((List.replicate 32 (0 : Int)), ((0 : Int), (ByteArray.empty, ((0 : Int), ()))))).2.1, ((List.getD x.1 (Int.toNat x.2.2.1) ((List.replicate 32 (0 : Int)), ((0 : Int), (ByteArray.empty, ((0 : Int), ()))))).2.2.1, ((List.getD x.1 (Int.toNat x.2.2.1) ((List.replicate 32 (0 : Int)), ((0 : Int), (ByteArray.empty, ((0 : Int), ()))))).2.2.2.1, ())))), ()))))))))).bind fun t22 => (match t22 with | .inl t23 => (ke (.inl (t23.1, ()))) | .inr (t24) => (let v25 : Int := (IntKind.wrap IntKind.i64 (t24.2.2.1 + (1 : Int)))
 kn (t24.1, (t24.2.1, (v25, ((t24.2.2.2.1.1, (t24.2.2.2.1.2.1, (t24.2.2.2.1.2.2.1, (t24.2.2.2.1.2.2.2.1, ())))), ()))))))) else (none)) else (none)) else (ke (.inr ((x.2.2.2.1.1, (x.2.2.2.1.2.1, (x.2.2.2.1.2.2.1, (x.2.2.2.1.2.2.2.1, ())))), ())))
def Q2.l1 (k : Nat) : Nat → Q2.l1.σ → Option Q2.l1.τ := Q0Q (Q2.l1.r k)
def Q2.l1.T : StT := ⟨us 1 ++ .ptr 0 [] :: us 35 ++ .dat Qhk :: .dat (.int .i64) :: .dat (.int .i64) :: us 58, [.dat Qhg]⟩
def Q2.l1.os : List Out := [⟨.ret, [.mask [2], .auto 0], ⟨us 2 ++ .dat (.int .i64) :: us 95, []⟩⟩, ⟨(.exit 0), [.mask [1], .auto 0], ⟨us 1 ++ .ptr 0 [] :: us 96, [.dat Qhg]⟩⟩]
abbrev Q2.l3.σ : Type := Qhm × Int × Int × Unit
abbrev Q2.l3.τ : Type := (Int × Unit) ⊕ (Unit)
def Q2.l3.r (k : Nat) {ρ : Type} (x : Q2.l3.σ) (kn : Q2.l3.σ → Option ρ) (ke : Q2.l3.τ → Option ρ) : Option ρ :=
 bif (decide (x.2.2.1 < x.2.1)) then (bif (decide (((0 : Int) ≤ x.2.2.1) ∧ (x.2.2.1 < (((List.length x.1) : Nat) : Int)))) then (let v34 : (List Int) := (List.getD x.1 (Int.toNat x.2.2.1) ((List.replicate 32 (0 : Int)), ((0 : Int), (ByteArray.empty, ((0 : Int), ()))))).1
 let v35 : (List Int) := (List.replicate 32 (0 : Int))
 bif (decide (v34 = v35)) then (let v36 : Int := (List.getD x.1 (Int.toNat x.2.2.1) ((List.replicate 32 (0 : Int)), ((0 : Int), (ByteArray.empty, ((0 : Int), ()))))).2.1
 bif (v36 == (4294967295 : Int)) then (ke (.inl ((106 : Int), ()))) else (let v37 : Int := (IntKind.wrap IntKind.i64 (x.2.2.1 + (1 : Int)))
 kn (x.1, (x.2.1, (v37, ()))))) else (let v38 : Int := (IntKind.wrap IntKind.i64 (x.2.2.1 + (1 : Int)))
 kn (x.1, (x.2.1, (v38, ()))))) else (none)) else (ke (.inr ()))
def Q2.l3 (k : Nat) : Nat → Q2.l3.σ → Option Q2.l3.τ := Q0Q (Q2.l3.r k)
def Q2.l3.T : StT := ⟨us 82 ++ .dat Qhk :: .dat (.int .i64) :: .dat (.int .i64) :: us 13, []⟩
def Q2.l3.os : List Out := [⟨.ret, [.mask [2], .auto 0], ⟨us 2 ++ .dat (.int .i64) :: us 95, []⟩⟩, ⟨(.exit 4), [.mask [], .auto 0], ⟨us 98, []⟩⟩]
def Q2.c (k : Nat) {ρ : Type} (t : Qhj) (K : Int × Unit → Option ρ) : Option ρ :=
 (Q9 k (t.1, (t.2.1, (t.2.2.1, (t.2.2.2.1, ()))))).bind fun t0 => bif (t0.1 != (0 : Int)) then (K (t0.1, ())) else ((Q2.p0 k ((t.1, (t.2.1, (t.2.2.1, (t.2.2.2.1, ())))), ())).bind fun t5 => (match t5 with | .inl t6 => (K (t6.1, ())) | .inr (t7) => ((Qu k (t7.1.1, (t7.1.2.1, (t7.1.2.2.1, (t7.1.2.2.2.1, ()))))).bind fun t8 => let v9 : Int := t8.1
 let v10 : Int := t8.2.1
 bif (v10 != (0 : Int)) then (K (v10, ())) else (let v11 : Qhm := t7.1.2.1
 let v12 : Int := (((List.length v11) : Nat) : Int)
 (Q2.l1 k k (v11, (v12, ((0 : Int), ((t7.1.1, (t7.1.2.1, (t7.1.2.2.1, (t7.1.2.2.2.1, ())))), ()))))).bind fun t26 => (match t26 with | .inl t27 => (K (t27.1, ())) | .inr (t28) => ((Q00 k (t28.1.1, (t28.1.2.1, (t28.1.2.2.1, (t28.1.2.2.2.1, ()))))).bind fun t29 => bif t29.1 then (let v30 : Qhm := t28.1.2.1
 bif (decide (((0 : Int) ≤ (0 : Int)) ∧ ((0 : Int) < (((List.length v30) : Nat) : Int)))) then (let v31 : ByteArray := (List.getD v30 0 ((List.replicate 32 (0 : Int)), ((0 : Int), (ByteArray.empty, ((0 : Int), ()))))).2.2.1
 bif (decide ((((ByteArray.size v31) : Nat) : Int) < (2 : Int))) then (K ((105 : Int), ())) else (bif (decide ((((ByteArray.size v31) : Nat) : Int) > (100 : Int))) then (K ((105 : Int), ())) else (K ((0 : Int), ())))) else (none)) else (let v32 : Qhm := t28.1.2.1
 let v33 : Int := (((List.length v32) : Nat) : Int)
 (Q2.l3 k k (v32, (v33, ((0 : Int), ())))).bind fun t39 => (match t39 with | .inl t40 => (K (t40.1, ())) | .inr (t41) => (K ((0 : Int), ()))))))))))
def Q2 (k : Nat) (t : Qhj) : Option (Int × Unit) := Q2.c k t some
def Q2.tin : List Ty := [Qhg]
def Q2.tout : List Ty := [(.int .i64)]
def Q2.sem (k : Nat) : QY := Q04 Q2.tin Q2.tout fun x => Q2 k x.1
noncomputable def Q2.ctx (k : Nat) : Ctx := ⟨Try.prog, gam [(47, (Q9.sem k)), (35, (Qu.sem k)), (39, (Q00.sem k))]⟩
theorem Q2.gok (k : Nat) : ∀ f, QG Try.prog f ((Q2.ctx k).Γ f) := (Qq (Q9.sem_ok k) (Qq (Qu.sem_ok k) (Qq (Q00.sem_ok k) Q0e)))
theorem Q2.p0.is (k : Nat) : Q1E (Q2.ctx k) (QP (Func.code Try.f37) [1, 1, 0]) (.nil) Q2.p0.T Q2.p0.os (Q2.p0.r k) := by
 intro ρ x K; kernel_rfl
theorem Q2.p0.ok (k : Nat) : StOK 0 Try.prog (QP (Func.code Try.f37) [1, 1, 0]) (Qx Q2.p0.T Q2.p0.os (Q2.p0 k)) :=
 Q1r (C := Q2.ctx k) (T := Q2.p0.T) (os := Q2.p0.os) (Q2.gok k) Try.mix (fun x K => Q2.p0.r k x K) Q3.nil (by kernel_rfl) (by kernel_rfl) (Q2.p0.is k)
theorem Q2.l2.round (k : Nat) : Q0L (Q2.ctx k) (QP (Func.code Try.f37) [1, 1, 1, 1, 0, 1, 0, 0, 1, 1, 0, 0, 1, 1, 0, 0]) (.nil) Q2.l2.T [.mask [1, 7, 37, 38, 39, 47, 48, 49], .auto 0] Q2.l2.os (Q2.l2.r k) := by
 intro ρ x kn ke; kernel_rfl
theorem Q2.l2.ok (k : Nat) : StOK 0 Try.prog (.loop (QP (Func.code Try.f37) [1, 1, 1, 1, 0, 1, 0, 0, 1, 1, 0, 0, 1, 1, 0, 0])) (Qx Q2.l2.T Q2.l2.os (Q2.l2 k k)) :=
 Q0M (C := Q2.ctx k) (Q2.gok k) Try.mix Q3.nil (by kernel_rfl) (by kernel_rfl) (by kernel_rfl) (Q2.l2.round k) k
theorem Q2.l1.round (k : Nat) : Q0L (Q2.ctx k) (QP (Func.code Try.f37) [1, 1, 1, 1, 0, 1, 0, 0]) (.node [] none (.nil) (.node [] none (.nil) (.node [] none (.node [] none (.node [] none (.nil) (.node [] none (.nil) (.node [] none (.node [.mask [1, 7, 37, 38, 39, 47, 48, 49], .auto 0] (some (Qx Q2.l2.T Q2.l2.os (Q2.l2 k k))) .nil .nil) (.nil)))) (.nil)) (.nil)))) Q2.l1.T [.mask [1, 37, 38, 39], .auto 0] Q2.l1.os (Q2.l1.r k) := by
 intro ρ x kn ke; kernel_rfl
theorem Q2.l1.ok (k : Nat) : StOK 0 Try.prog (.loop (QP (Func.code Try.f37) [1, 1, 1, 1, 0, 1, 0, 0])) (Qx Q2.l1.T Q2.l1.os (Q2.l1 k k)) :=
 Q0M (C := Q2.ctx k) (Q2.gok k) Try.mix (Q3.seq Q3.nil (Q3.seq Q3.nil (Q3.seq (Q3.block (Q3.seq Q3.nil (Q3.seq Q3.nil (Q3.block (Q3.loop (by kernel_rfl) (Q2.l2.ok k)))))) Q3.nil))) (by kernel_rfl) (by kernel_rfl) (by kernel_rfl) (Q2.l1.round k) k
theorem Q2.l3.round (k : Nat) : Q0L (Q2.ctx k) (QP (Func.code Try.f37) [1, 1, 1, 1, 1, 1, 0, 1, 0, 0]) (.nil) Q2.l3.T [.mask [82, 83, 84], .auto 0] Q2.l3.os (Q2.l3.r k) := by
 intro ρ x kn ke; kernel_rfl
theorem Q2.l3.ok (k : Nat) : StOK 0 Try.prog (.loop (QP (Func.code Try.f37) [1, 1, 1, 1, 1, 1, 0, 1, 0, 0])) (Qx Q2.l3.T Q2.l3.os (Q2.l3 k k)) :=
 Q0M (C := Q2.ctx k) (Q2.gok k) Try.mix Q3.nil (by kernel_rfl) (by kernel_rfl) (by kernel_rfl) (Q2.l3.round k) k
def Q2.ann (k : Nat) : Ann := .node [] none (.nil) (.node [] none (.nil) (.node [] none (.node [.mask [1], .auto 0] (some (Qx Q2.p0.T Q2.p0.os (Q2.p0 k))) .nil .nil) (.node [] none (.nil) (.node [] none (.node [] none (.nil) (.node [] none (.node [.mask [1, 37, 38, 39], .auto 0] (some (Qx Q2.l1.T Q2.l1.os (Q2.l1 k k))) .nil .nil) (.nil))) (.node [] none (.nil) (.node [] none (.node [] none (.nil) (.node [] none (.node [.mask [82, 83, 84], .auto 0] (some (Qx Q2.l3.T Q2.l3.os (Q2.l3 k k))) .nil .nil) (.nil))) (.nil)))))))
theorem Q2.body (k : Nat) : Q0K (Q2.ctx k) Try.f37 (Func.code Try.f37) (Q2.ann k) Q2.tin Q2.tout (fun x K => Q2.c k x.1 K) := by
 intro ρ x K; kernel_rfl
theorem Q2.sem_ok (k : Nat) : QG Try.prog 37 (Q2.sem k) :=
 QT (C := Q2.ctx k) (Q2.gok k) Try.mix (c := Func.code Try.f37) (ann := Q2.ann k) (tin := Q2.tin) (tout := Q2.tout) (fun x K => Q2.c k x.1 K) Try.func37 (by kernel_rfl) (by kernel_rfl) (Q3.seq Q3.nil (Q3.seq Q3.nil (Q3.seq (Q3.loop (by kernel_rfl) (Q2.p0.ok k)) (Q3.seq Q3.nil (Q3.seq (Q3.seq Q3.nil (Q3.block (Q3.loop (by kernel_rfl) (Q2.l1.ok k)))) (Q3.seq Q3.nil (Q3.seq (Q3.seq Q3.nil (Q3.block (Q3.loop (by kernel_rfl) (Q2.l3.ok k)))) Q3.nil))))))) (Q2.body k)
def QM.c (k : Nat) {ρ : Type} (t : Qhh) (K : Bool × Unit → Option ρ) : Option ρ :=
 (Q6 k (t.1, (t.2.1, (t.2.2.1, (t.2.2.2.1, ()))))).bind fun t0 => (Q0z k (t.1, (t.2.1, (t.2.2.1, (t.2.2.2.1, ()))))).bind fun t1 => let v2 : Int := t1.1
 let v3 : Int := t1.2.1
 (Qu k (t0.1.1, (t0.1.2.1, (t0.1.2.2.1, (t0.1.2.2.2.1, ()))))).bind fun t4 => let v5 : Int := t4.1
 let v6 : Int := t4.2.1
 (QJ k ).bind fun t7 => bif t7.1 then ((QW k (t.1, (t.2.1, (t.2.2.1, (t.2.2.2.1, ()))))).bind fun t8 => (Q2 k (t0.1.1, (t0.1.2.1, (t0.1.2.2.1, (t0.1.2.2.2.1, ()))))).bind fun t9 => bif (t8.1 == t9.1) then (bif (v2 == v5) then (bif (v3 == v6) then ((Q16 k (t.1, (t.2.1, (t.2.2.1, (t.2.2.2.1, ()))))).bind fun t10 => (Q00 k (t0.1.1, (t0.1.2.1, (t0.1.2.2.1, (t0.1.2.2.2.1, ()))))).bind fun t11 => K ((t10.1 == t11.1), ())) else (K (false, ()))) else (K (false, ()))) else (K (false, ()))) else (K (false, ()))
def QM (k : Nat) (t : Qhh) : Option (Bool × Unit) := QM.c k t some
def QM.tin : List Ty := [Qhf]
def QM.tout : List Ty := [.bool]
def QM.sem (k : Nat) : QY := Q04 QM.tin QM.tout fun x => QM k x.1
noncomputable def QM.ctx (k : Nat) : Ctx := ⟨Try.prog, gam [(23, (Q6.sem k)), (34, (Q0z.sem k)), (35, (Qu.sem k)), (21, (QJ.sem k)), (36, (QW.sem k)), (37, (Q2.sem k)), (38, (Q16.sem k)), (39, (Q00.sem k))]⟩
theorem QM.gok (k : Nat) : ∀ f, QG Try.prog f ((QM.ctx k).Γ f) := (Qq (Q6.sem_ok k) (Qq (Q0z.sem_ok k) (Qq (Qu.sem_ok k) (Qq (QJ.sem_ok k) (Qq (QW.sem_ok k) (Qq (Q2.sem_ok k) (Qq (Q16.sem_ok k) (Qq (Q00.sem_ok k) Q0e))))))))
def QM.ann (k : Nat) : Ann := .nil
theorem QM.body (k : Nat) : Q0K (QM.ctx k) Try.f8 (Func.code Try.f8) (QM.ann k) QM.tin QM.tout (fun x K => QM.c k x.1 K) := by
 intro ρ x K; kernel_rfl
theorem QM.sem_ok (k : Nat) : QG Try.prog 8 (QM.sem k) :=
 QT (C := QM.ctx k) (QM.gok k) Try.mix (c := Func.code Try.f8) (ann := QM.ann k) (tin := QM.tin) (tout := QM.tout) (fun x K => QM.c k x.1 K) Try.func8 (by kernel_rfl) (by kernel_rfl) Q3.nil (QM.body k)
end Go.Am
namespace Go.Am
open Go
abbrev QPt : Type := List Int × Int × Unit
abbrev ptTy : Ty := .pair (.arr 32 (.int .u8)) Qhq 
def mp (l : List QPt) : List (QPt × Bool) := l.map fun p => (p, true)
theorem ptEq (p q : QPt) : eqK ptTy p q = decide (p = q) := by
 rw [Bool.eq_iff_iff, decide_eq_true_iff]
 exact QcZ (t := ptTy) (x := p) (y := q) rfl
theorem Q7V (p : QPt) : ∀ l : List QPt, mget ptTy p (mp l) = if p ∈ l then some true else none
 | [] => by simp [mp, mget]
 | q :: l => by
  show (bif eqK ptTy p q then some true else mget ptTy p (mp l)) = _
  rw [ptEq, Q7V p l]
  by_cases h : p = q
  ·subst h; simp
  ·simp [h]
theorem Qd8 (p : QPt) : ∀ l : List QPt, p ∉ l → mset ptTy p true (mp l) = mp (l ++ [p])
 | [], _ => rfl
 | q :: l, h => by
  simp only [List.mem_cons, not_or] at h
  show (bif eqK ptTy p q then (p, true) :: mp l else (q, true) :: mset ptTy p true (mp l)) = _
  rw [ptEq, Qd8 p l h.2]
  simp [h.1, mp]
def Q4F (ins : List TIn) (i : Nat) : Bool := decide ((ins.getD i dIn).1 ∉ (ins.take i).map Prod.fst)
abbrev Q8G (ins : List TIn) : Prop := ∀ i, i < ins.length → Q4F ins i = true
theorem Qcu {k : Nat} (ins : List TIn) (h : ins.length ≤ 4611686018427387904) (hk : ins.length < k) (t : TTx) :
  QW.l1 k k (ins, (ins.length : Int), (0 : Int), t, [], ()) = some (if Q8G ins then .inr (t, mp (ins.map Prod.fst), ()) else .inl (104, ())) := by
 have := Q23 (r := QW.l1.r k) (fun i => (ins, (ins.length : Int), (i : Int), t, mp ((ins.take i).map Prod.fst), ())) ins.length (.inr (t, mp (ins.map Prod.fst), ())) (.inl (104, ())) (Q4F ins) ?_ ?_ ?_ (fuel := k) (by omega)
 ·exact this
 ·intro i hi hp kn ke
  simp only [QW.l1.r]
  have hq : (ins.getD i dIn).1 ∉ (ins.take i).map Prod.fst := of_decide_eq_true hp
  rw [Q56, Qy (by omega), Qy (by omega), show (i : Int).toNat = i by omega]
  have e : ((ins.getD i dIn).1.1, (ins.getD i dIn).1.2.1, ()) = (ins.getD i dIn).1 := rfl
  rw [e, Q7V, if_neg hq, Option.getD_none, cond_false, i64_in (by omega), Qd8 _ _ hq, Q7d Prod.fst ins dIn hi]
  rfl
 ·intro i hi hp kn ke
  simp only [QW.l1.r]
  have hq : (ins.getD i dIn).1 ∈ (ins.take i).map Prod.fst := Classical.not_not.1 (of_decide_eq_false hp)
  rw [Q56, Qy (by omega), Qy (by omega), show (i : Int).toNat = i by omega]
  have e : ((ins.getD i dIn).1.1, (ins.getD i dIn).1.2.1, ()) = (ins.getD i dIn).1 := rfl
  rw [e, Q7V, if_pos hq, Option.getD_some, cond_true]
 ·intro kn ke
  simp only [QW.l1.r]
  rw [Q0I (by omega), List.take_length]
theorem Qby (a b : TIn) : a.1 = b.1 ↔ ((gIn a).1 = (gIn b).1 ∧ (gIn a).2.1 = (gIn b).2.1) := by
 obtain ⟨⟨a1, a2, _⟩, _⟩ := a
 obtain ⟨⟨b1, b2, _⟩, _⟩ := b
 simp [gIn]
theorem Qb0 {k : Nat} (ins : List TIn) (i : Nat) (hi : i < ins.length) (h : ins.length ≤ 4611686018427387904) (hk : ins.length < k) (t : RTx) (N : Int) (x : TIn) :
  Q2.l2 k k (ins.map gIn, N, (i : Int), (ins.take i).map gIn, (i : Int), (0 : Int), t, gIn x, ()) = some (if ∀ j, j < i → decide (x.1 ≠ (ins.getD j dIn).1) = true then .inr (ins.map gIn, N, (i : Int), t, ()) else .inl (104, ())) := by
 have hl : ((ins.take i).map gIn).length = i := by rw [List.length_map, List.length_take]; omega
 have hg : ∀ j, j < i → ((ins.take i).map gIn).getD j dR = gIn (ins.getD j dIn) := by
  intro j hj
  rw [Q2W (by rw [List.length_take]; omega), List.getD_eq_getElem?_getD, List.getD_eq_getElem?_getD, List.getElem?_take, if_pos hj]
 refine Q23 (r := Q2.l2.r k) (fun j => (ins.map gIn, N, (i : Int), (ins.take i).map gIn, (i : Int), (j : Int), t, gIn x, ())) i (.inr (ins.map gIn, N, (i : Int), t, ())) (.inl (104, ())) (fun j => decide (x.1 ≠ (ins.getD j dIn).1)) ?_ ?_ ?_ (fuel := k) (by omega)
 ·intro j hj hp kn ke
  simp only [Q2.l2.r]
  have hq := of_decide_eq_true hp
  rw [Ne, Qby] at hq
  rw [Q4H, Qy (by omega), Qy (by rw [hl]; omega), show (j : Int).toNat = j by omega, hg j hj]
  by_cases c : (gIn x).1 = (gIn (ins.getD j dIn)).1
  ·rw [QR (decide_eq_true c), Q0v (by simpa using fun e => hq ⟨c, e⟩), i64_in (by omega)]
   rfl
  ·rw [Q0v (decide_eq_false c), i64_in (by omega)]
   rfl
 ·intro j hj hp kn ke
  simp only [Q2.l2.r]
  have hq := Classical.not_not.1 (of_decide_eq_false hp)
  rw [Qby] at hq
  rw [Q4H, Qy (by omega), Qy (by rw [hl]; omega), show (j : Int).toNat = j by omega, hg j hj, QR (decide_eq_true hq.1), QR (by simpa using hq.2)]
 ·intro kn ke
  simp only [Q2.l2.r]
  rw [Q0I (by omega)]
theorem Q9L {ins : List TIn} {i : Nat} (hi : i < ins.length) : (∀ j, j < i → decide ((ins.getD i dIn).1 ≠ (ins.getD j dIn).1) = true) ↔ Q4F ins i = true := by
 unfold Q4F
 rw [decide_eq_true_iff]
 constructor
 ·intro h hm
  obtain ⟨y, hy, e⟩ := List.mem_map.1 hm
  obtain ⟨j, hj, e2⟩ := List.mem_iff_getElem.1 hy
  rw [List.length_take] at hj
  have := of_decide_eq_true (h j (by omega))
  rw [List.getElem_take] at e2
  apply this
  rw [← e, ← e2, List.getD_eq_getElem?_getD (l := ins) (i := j), List.getElem?_eq_getElem (by omega)]
  rfl
 ·intro h j hj
  rw [decide_eq_true_iff]
  intro e
  apply h
  rw [e, List.mem_map]
  refine ⟨ins.getD j dIn, ?_, rfl⟩
  rw [List.mem_iff_getElem]
  refine ⟨j, by rw [List.length_take]; omega, ?_⟩
  rw [List.getElem_take, List.getD_eq_getElem?_getD, List.getElem?_eq_getElem (by omega)]
  rfl
theorem QbH {k : Nat} (ins : List TIn) (h : ins.length ≤ 4611686018427387904) (hk : ins.length < k) (t : RTx) (ht : t.2.1 = ins.map gIn) :
  Q2.l1 k k (ins.map gIn, (ins.length : Int), (0 : Int), t, ()) = some (if Q8G ins then .inr (t, ()) else .inl (104, ())) := by
 have inner : ∀ i, i < ins.length → Q2.l2 k k (ins.map gIn, (ins.length : Int), (i : Int), (ins.take i).map gIn, (i : Int), (0 : Int), t, gIn (ins.getD i dIn), ()) = some (if Q4F ins i = true then .inr (ins.map gIn, (ins.length : Int), (i : Int), t, ()) else .inl (104, ())) := by
  intro i hi
  rw [Qb0 ins i hi h hk t]
  by_cases c : Q4F ins i = true
  ·rw [if_pos c, if_pos ((Q9L hi).2 c)]
  ·rw [if_neg c, if_neg (fun q => c ((Q9L hi).1 q))]
 have hl : ((ins.map gIn).length : Int) = ins.length := by rw [List.length_map]
 have step : ∀ (i : Nat), i < ins.length → ∀ (kn : Q2.l1.σ → Option Q2.l1.τ) (ke : Q2.l1.τ → Option Q2.l1.τ), Q2.l1.r k (ins.map gIn, (ins.length : Int), (i : Int), t, ()) kn ke =
   if Q4F ins i = true then kn (ins.map gIn, (ins.length : Int), ((i + 1 : Nat) : Int), t, ()) else ke (.inl (104, ())) := by
  intro i hi kn ke
  simp only [Q2.l1.r]
  rw [Q4H, Qy (by omega), Qy (by rw [hl]; omega), ht, Qy (by rw [hl]; omega), show (i : Int).toNat = i by omega, Q2W hi, List.drop_zero, ← List.map_take]
  have e : (((ins.take i).map gIn).length : Int) = (i : Int) := by rw [List.length_map, List.length_take]; omega
  rw [e]
  have hin := inner i hi
  rw [← ht] at hin ⊢
  show (Q2.l2 k k (t.2.1, (ins.length : Int), (i : Int), (ins.take i).map gIn, (i : Int), (0 : Int), t, gIn (ins.getD i dIn), ())).bind _ = _
  rw [hin]
  by_cases c : Q4F ins i = true
  ·rw [if_pos c, if_pos c]
   simp only [Option.bind_some]
   rw [i64_in (by omega)]
   rfl
  ·rw [if_neg c, if_neg c]
   rfl
 refine Q23 (r := Q2.l1.r k) (fun i => (ins.map gIn, (ins.length : Int), (i : Int), t, ())) ins.length (.inr (t, ())) (.inl (104, ())) (Q4F ins) ?_ ?_ ?_ (fuel := k) (by omega)
 ·intro i hi hp kn ke
  rw [step i hi, if_pos hp]
 ·intro i hi hp kn ke
  rw [step i hi, if_neg (by rw [hp]; decide)]
 ·intro kn ke
  simp only [Q2.l1.r]
  rw [Q0I (by omega)]
def Q4d : QPt := (List.replicate 32 (0 : Int), 4294967295, ())
theorem Qbg {k : Nat} (ins : List TIn) (h : ins.length ≤ 4611686018427387904) (hk : ins.length < k) :
  Q2.l3 k k (ins.map gIn, (ins.length : Int), (0 : Int), ()) = some (if Q4d ∈ ins.map Prod.fst then .inl (106, ()) else .inr ()) := by
 have hl : ((ins.map gIn).length : Int) = ins.length := by rw [List.length_map]
 have pn : ∀ a : TIn, a.1 = Q4d ↔ ((gIn a).1 = List.replicate 32 (0 : Int) ∧ (gIn a).2.1 = 4294967295) := by
  intro a
  obtain ⟨⟨a1, a2, _⟩, _⟩ := a
  simp [gIn, Q4d]
 have := Q23 (r := Q2.l3.r k) (fun i => (ins.map gIn, (ins.length : Int), (i : Int), ())) ins.length (.inr ()) (.inl (106, ())) (fun i => decide ((ins.getD i dIn).1 ≠ Q4d)) ?_ ?_ ?_ (fuel := k) (by omega)
 ·refine Eq.trans this ?_
  congr 1
  by_cases c : Q4d ∈ ins.map Prod.fst
  ·rw [if_pos c, if_neg]
   intro q
   obtain ⟨y, hy, e⟩ := List.mem_map.1 c
   obtain ⟨j, hj, e2⟩ := List.mem_iff_getElem.1 hy
   apply of_decide_eq_true (q j hj)
   rw [List.getD_eq_getElem?_getD, List.getElem?_eq_getElem hj, ← e, ← e2]
   rfl
  ·rw [if_neg c, if_pos]
   intro j hj
   rw [decide_eq_true_iff]
   intro e
   apply c
   rw [← e, List.mem_map]
   refine ⟨ins.getD j dIn, ?_, rfl⟩
   rw [List.getD_eq_getElem?_getD, List.getElem?_eq_getElem hj]
   exact List.getElem_mem hj
 ·intro i hi hp kn ke
  simp only [Q2.l3.r]
  have hq := of_decide_eq_true hp
  rw [Ne, pn] at hq
  rw [Q4H, Qy (by omega), Qy (by rw [hl]; omega), show (i : Int).toNat = i by omega, Q2W hi]
  by_cases c : (gIn (ins.getD i dIn)).1 = List.replicate 32 (0 : Int)
  ·rw [QR (decide_eq_true c), Q0v (by simpa using fun e => hq ⟨c, e⟩), i64_in (by omega)]
   rfl
  ·rw [Q0v (decide_eq_false c), i64_in (by omega)]
   rfl
 ·intro i hi hp kn ke
  simp only [Q2.l3.r]
  have hq := Classical.not_not.1 (of_decide_eq_false hp)
  rw [pn] at hq
  rw [Q4H, Qy (by omega), Qy (by rw [hl]; omega), show (i : Int).toNat = i by omega, Q2W hi, QR (decide_eq_true hq.1), QR (by simpa using hq.2)]
 ·intro kn ke
  simp only [Q2.l3.r]
  rw [Q0I (by omega)]
def sumC (outs : List TOut) : Nat → Int
 | 0 => 0
 | i + 1 => if sumC outs i + (outs.getD i dOut).1 ≤ 1000000 then sumC outs i + (outs.getD i dOut).1 else sumC outs i
def payP (outs : List TOut) (i : Nat) : Bool := decide ((outs.getD i dOut).1 ≤ 1000000 ∧ sumC outs i + (outs.getD i dOut).1 ≤ 1000000)
def Q8z (outs : List TOut) : Int × Int := if ∀ i, i < outs.length → payP outs i = true then (sumC outs outs.length, 0) else (0, 103)
theorem Q5X {outs : List TOut} (h : ∀ i, i < outs.length → Q5y (outs.getD i dOut)) : ∀ i, i ≤ outs.length → 0 ≤ sumC outs i ∧ sumC outs i ≤ 1000000
 | 0, _ => by simp [sumC]
 | i + 1, hi => by
  have ih := Q5X h i (by omega)
  have ho := (h i (by omega)).1
  simp only [sumC]
  split <;> omega
theorem Q4A {k : Nat} {t : TTx} (h : t.2.2.1.length ≤ 4611686018427387904) (ho : ∀ i, i < t.2.2.1.length → Q5y (t.2.2.1.getD i dOut)) (hk : t.2.2.1.length < k) :
  Q0z k t = some ((Q8z t.2.2.1).1, (Q8z t.2.2.1).2, ()) := by
 obtain ⟨v, ins, outs, tm, u⟩ := t
 dsimp only at h ho hk ⊢
 unfold Q0z Q0z.c
 dsimp only
 have l0 : Q0z.l0 k k ((0 : Int), outs, (outs.length : Int), (0 : Int), ()) = some (if ∀ i, i < outs.length → payP outs i = true then .inr (sumC outs outs.length, ()) else .inl (0, 103, ())) := by
  refine Q23 (r := Q0z.l0.r k) (fun i => (sumC outs i, outs, (outs.length : Int), (i : Int), ())) outs.length (.inr (sumC outs outs.length, ())) (.inl (0, 103, ())) (payP outs) ?_ ?_ ?_ (fuel := k) (by omega)
  ·intro i hi hp kn ke
   simp only [Q0z.l0.r]
   have hq := of_decide_eq_true hp
   have hs := Q5X ho i (by omega)
   have hv := (ho i hi).1
   rw [Q2Z, Qy (by omega), Qy (by omega), show (i : Int).toNat = i by omega, Q0I (by omega), u64_in (by omega), Q0I (by omega), i64_in (by omega)]
   simp only [sumC]
   rw [if_pos hq.2]
   rfl
  ·intro i hi hp kn ke
   simp only [Q0z.l0.r]
   have hq := of_decide_eq_false hp
   have hs := Q5X ho i (by omega)
   have hv := (ho i hi).1
   rw [Q2Z, Qy (by omega), Qy (by omega), show (i : Int).toNat = i by omega]
   by_cases c : (outs.getD i dOut).1 > 1000000
   ·rw [Qy c]
   ·rw [Q0I c, u64_in (by omega), Qy (by omega)]
  ·intro kn ke
   simp only [Q0z.l0.r]
   rw [Q0I (by omega)]
 rw [l0]
 unfold Q8z
 by_cases c : ∀ i, i < outs.length → payP outs i = true
 ·rw [if_pos c, if_pos c]; rfl
 ·rw [if_neg c, if_neg c]; rfl
theorem Q5G (k : Nat) (t : TTx) : Qu k (gTx t) = Q0z k t := rfl
def Q8b (ins : List TIn) : Bool := decide (ins.length = 1 ∧ (ins.getD 0 dIn).1 = Q4d)
theorem Q8v (k : Nat) (t : TTx) : Q16 k t = some (Q8b t.2.1, ()) := by
 obtain ⟨v, ins, outs, tm, u⟩ := t
 unfold Q16 Q16.c Q8b
 dsimp only
 by_cases c : ins.length = 1
 ·rw [QR (by rw [c]; rfl), Qy (by omega)]
  show some _ = _
  rw [Q56]
  generalize ins.getD 0 dIn = a
  obtain ⟨⟨a1, a2, _⟩, a3⟩ := a
  simp only [Q4d, c, true_and, Bool.and_true]
  congr 2
  rw [Bool.eq_iff_iff]
  simp
 ·rw [Q0v (beq_eq_false_iff_ne.2 (by omega)), decide_eq_false (fun h => c h.1)]
theorem Q5A (k : Nat) (t : TTx) : Q00 k (gTx t) = some (Q8b t.2.1, ()) := by
 obtain ⟨v, ins, outs, tm, u⟩ := t
 unfold Q00 Q00.c Q8b gTx
 dsimp only
 have hl : (ins.map gIn).length = ins.length := by rw [List.length_map]
 by_cases c : ins.length = 1
 ·rw [hl, QR (by rw [c]; rfl), Qy (by omega), Q4H, Q2W (by omega)]
  generalize ins.getD 0 dIn = a
  obtain ⟨⟨a1, a2, _⟩, a3⟩ := a
  show (bif decide (a1 = List.replicate 32 (0 : Int)) then (bif decide (((0 : Int) ≤ 0) ∧ ((0 : Int) < ((ins.length : Nat) : Int))) then some (a2 == 4294967295, ()) else none) else some (false, ())) = some (decide (ins.length = 1 ∧ (a1, a2, ()) = Q4d), ())
  by_cases d : a1 = List.replicate 32 (0 : Int)
  ·rw [QR (decide_eq_true d), Qy (by omega)]
   congr 2
   rw [Bool.eq_iff_iff]
   simp [Q4d, c, d]
  ·rw [Q0v (decide_eq_false d), decide_eq_false (fun h => d (congrArg Prod.fst h.2))]
 ·rw [hl, Q0v (beq_eq_false_iff_ne.2 (by omega)), decide_eq_false (fun h => c h.1)]
def QaL (t : TTx) : Int :=
 if (encS t).2 ≠ 0 then (encS t).2 else if t.2.1.length = 0 ∨ t.2.2.1.length = 0 then 102 else if (Q8z t.2.2.1).2 ≠ 0 then (Q8z t.2.2.1).2 else
 if Q8G t.2.1 then (if Q8b t.2.1 then (if (t.2.1.getD 0 dIn).2.1.size < 2 ∨ (t.2.1.getD 0 dIn).2.1.size > 100 then 105 else 0) else if Q4d ∈ t.2.1.map Prod.fst then 106 else 0) else 104
theorem QaZ {k : Nat} {t : TTx} (ht : TxOK t) (h1 : t.2.1.length ≤ 4611686018427387904) (h2 : t.2.2.1.length ≤ 4611686018427387904) (hk : t.2.1.length + t.2.2.1.length + 20 ≤ k) : QW k t = some (QaL t, ()) := by
 have ho := ht.outs
 have he := Q3v ht hk
 unfold QW QW.c QaL
 show (Qh k t).bind _ = _
 rw [he]
 simp only [Option.bind_some]
 by_cases c0 : (encS t).2 ≠ 0
 ·rw [QR (by simpa using c0), if_pos c0]
 rw [Q0v (by simpa using c0), if_neg c0]
 have p0 : QW.p0 k (t, ()) = some (if t.2.1.length = 0 ∨ t.2.2.1.length = 0 then .inl (102, ()) else .inr (t, ())) := by
  unfold QW.p0
  simp only [QW.p0.r]
  by_cases c : t.2.1.length = 0
  ·rw [QR (by rw [c]; rfl), if_pos (.inl c)]
  ·rw [Q0v (beq_eq_false_iff_ne.2 (by omega))]
   by_cases d : t.2.2.1.length = 0
   ·rw [QR (by rw [d]; rfl), if_pos (.inr d)]
   ·rw [Q0v (beq_eq_false_iff_ne.2 (by omega)), if_neg (by omega)]
 show (QW.p0 k (t, ())).bind _ = _
 rw [p0]
 by_cases c1 : t.2.1.length = 0 ∨ t.2.2.1.length = 0
 ·rw [if_pos c1, if_pos c1]; rfl
 rw [if_neg c1, if_neg c1]
 simp only [Option.bind_some]
 show (Q0z k t).bind _ = _
 rw [Q4A h2 ho (by omega)]
 simp only [Option.bind_some]
 by_cases c2 : (Q8z t.2.2.1).2 ≠ 0
 ·rw [QR (by simpa using c2), if_pos c2]
 rw [Q0v (by simpa using c2), if_neg c2]
 show (QW.l1 k k (t.2.1, (t.2.1.length : Int), (0 : Int), t, [], ())).bind _ = _
 rw [Qcu t.2.1 h1 (by omega) t]
 by_cases c3 : Q8G t.2.1
 ·rw [if_pos c3, if_pos c3]
  simp only [Option.bind_some]
  show (Q16 k t).bind _ = _
  rw [Q8v]
  simp only [Option.bind_some]
  cases c4 : Q8b t.2.1
  ·simp only [cond_false, Bool.false_eq_true, if_false]
   show (bif Option.getD (mget ptTy Q4d (mp (t.2.1.map Prod.fst))) false then _ else _) = _
   rw [Q7V]
   by_cases c5 : Q4d ∈ t.2.1.map Prod.fst
   ·rw [if_pos c5, if_pos c5]; rfl
   ·rw [if_neg c5, if_neg c5]; rfl
  ·simp only [cond_true, if_true]
   rw [Qy (by omega), Q56]
   by_cases c5 : (t.2.1.getD 0 dIn).2.1.size < 2
   ·rw [Qy (by omega), if_pos (.inl c5)]
   ·rw [Q0I (by omega)]
    by_cases c6 : (t.2.1.getD 0 dIn).2.1.size > 100
    ·rw [Qy (by omega), if_pos (.inr c6)]
    ·rw [Q0I (by omega), if_neg (by omega)]
 ·rw [if_neg c3, if_neg c3]; rfl
theorem Q8c {k : Nat} {t : TTx} (ht : TxOK t) (h1 : t.2.1.length ≤ 4611686018427387904) (h2 : t.2.2.1.length ≤ 4611686018427387904) (hk : t.2.1.length + t.2.2.1.length + 20 ≤ k) : Q2 k (gTx t) = some (QaL t, ()) := by
 have ho := ht.outs
 have he := Q43 ht hk
 have hl : (t.2.1.map gIn).length = t.2.1.length := by rw [List.length_map]
 unfold Q2 Q2.c QaL
 show (Q9 k (gTx t)).bind _ = _
 rw [he]
 simp only [Option.bind_some]
 by_cases c0 : (encS t).2 ≠ 0
 ·rw [QR (by simpa using c0), if_pos c0]
 rw [Q0v (by simpa using c0), if_neg c0]
 have p0 : Q2.p0 k (gTx t, ()) = some (if t.2.1.length = 0 ∨ t.2.2.1.length = 0 then .inl (102, ()) else .inr (gTx t, ())) := by
  unfold Q2.p0
  simp only [Q2.p0.r]
  have e1 : (gTx t).2.1.length = t.2.1.length := hl
  have e2 : (gTx t).2.2.1.length = t.2.2.1.length := rfl
  rw [e1, e2]
  by_cases c : t.2.1.length = 0
  ·rw [QR (by rw [c]; rfl), if_pos (.inl c)]
  ·rw [Q0v (beq_eq_false_iff_ne.2 (by omega))]
   by_cases d : t.2.2.1.length = 0
   ·rw [QR (by rw [d]; rfl), if_pos (.inr d)]
   ·rw [Q0v (beq_eq_false_iff_ne.2 (by omega)), if_neg (by omega)]
 show (Q2.p0 k (gTx t, ())).bind _ = _
 rw [p0]
 by_cases c1 : t.2.1.length = 0 ∨ t.2.2.1.length = 0
 ·rw [if_pos c1, if_pos c1]; rfl
 rw [if_neg c1, if_neg c1]
 simp only [Option.bind_some]
 show (Qu k (gTx t)).bind _ = _
 rw [Q5G, Q4A h2 ho (by omega)]
 simp only [Option.bind_some]
 by_cases c2 : (Q8z t.2.2.1).2 ≠ 0
 ·rw [QR (by simpa using c2), if_pos c2]
 rw [Q0v (by simpa using c2), if_neg c2]
 have e1 : (gTx t).2.1 = t.2.1.map gIn := rfl
 rw [e1, hl]
 show (Q2.l1 k k (t.2.1.map gIn, (t.2.1.length : Int), (0 : Int), gTx t, ())).bind _ = _
 rw [QbH t.2.1 h1 (by omega) (gTx t) rfl]
 by_cases c3 : Q8G t.2.1
 ·rw [if_pos c3, if_pos c3]
  simp only [Option.bind_some]
  show (Q00 k (gTx t)).bind _ = _
  rw [Q5A]
  simp only [Option.bind_some]
  rw [e1, hl]
  cases c4 : Q8b t.2.1
  ·simp only [cond_false, Bool.false_eq_true, if_false]
   rw [Qbg t.2.1 h1 (by omega)]
   by_cases c5 : Q4d ∈ t.2.1.map Prod.fst
   ·rw [if_pos c5, if_pos c5]; rfl
   ·rw [if_neg c5, if_neg c5]; rfl
  ·simp only [cond_true, if_true]
   rw [Qy (by omega), Q4H, Q2W (by omega)]
   show (bif decide ((((t.2.1.getD 0 dIn).2.1.size : Nat) : Int) < 2) then _ else (bif decide ((((t.2.1.getD 0 dIn).2.1.size : Nat) : Int) > 100) then _ else _)) = _
   by_cases c5 : (t.2.1.getD 0 dIn).2.1.size < 2
   ·rw [Qy (by omega), if_pos (.inl c5)]
   ·rw [Q0I (by omega)]
    by_cases c6 : (t.2.1.getD 0 dIn).2.1.size > 100
    ·rw [Qy (by omega), if_pos (.inr c6)]
    ·rw [Q0I (by omega), if_neg (by omega)]
 ·rw [if_neg c3, if_neg c3]; rfl
theorem Q9i {t : TTx} (ht : TxOK t) (h1 : t.2.1.length ≤ 2199023255552) (h2 : t.2.2.1.length ≤ 5864062014805) : QM (t.2.1.length + t.2.2.1.length + 10000) t = some (true, ()) := by
 unfold QM QM.c
 generalize hk : t.2.1.length + t.2.2.1.length + 10000 = k
 show (Q6 k t).bind _ = _
 rw [Q67 h1 h2 (by omega)]
 simp only [Option.bind_some]
 show (Q0z k t).bind _ = _
 rw [Q4A (by omega) ht.outs (by omega)]
 simp only [Option.bind_some]
 show (Qu k (gTx t)).bind _ = _
 rw [Q5G, Q4A (by omega) ht.outs (by omega)]
 simp only [Option.bind_some]
 rw [Qae (by omega)]
 simp only [Option.bind_some, cond_true]
 show (QW k t).bind _ = _
 rw [QaZ ht (by omega) (by omega) (by omega)]
 simp only [Option.bind_some]
 show (Q2 k (gTx t)).bind _ = _
 rw [Q8c ht (by omega) (by omega) (by omega)]
 simp only [Option.bind_some, beq_self_eq_true, cond_true]
 show (Q16 k t).bind _ = _
 rw [Q8v]
 simp only [Option.bind_some]
 show (Q00 k (gTx t)).bind _ = _
 rw [Q5A]
 simp only [Option.bind_some, beq_self_eq_true]
end Go.Am
namespace Go.Am
open Go
abbrev inTy : Ty := .pair Qhn (.pair .str Qhq)
abbrev Qfk : Ty := .pair (.int .u64) (.pair .str .unit)
abbrev txTy : Ty := .pair (.int .u32) (.pair (.sl inTy) (.pair (.sl Qfk) Qhq))
theorem Qf7 {N : Nat} {l : List Int} (h : WF N (.arr 32 (.int .u8)) l) : l.length = 32 ∧ Q1j l :=
 ⟨h.1, Qe5 (p := fun x => 0 ≤ x ∧ x < 256) fun i hi => by
  have := QfX (h.2 i (by have := h.1; omega))
  have e : l.getD i (Ty.zero (.int .u8)) = l.getD i 0 := rfl
  rw [e] at this
  omega⟩
theorem Qaj {N : Nat} {x : Int} (h : WF N (.int .u32) x) : u32R x := Qfv h
theorem QeZ {N : Nat} {x : TIn} (h : WF N inTy x) : InOK x := ⟨Qf7 h.1.1, Qaj (N := N) h.1.2.1, Qaj (N := N) h.2.2.1⟩
theorem QdK {N : Nat} {x : TOut} (h : WF N Qfk x) : Q5y x := QfJ h.1
theorem QeP {N : Nat} (hN : N ≤ 140737488355328) {t : TTx} (h : WF N txTy t) : TxOK t where
 v := Qaj (N := N) h.1
 tm := Qaj (N := N) h.2.2.2.1
 ins := fun i hi => QeZ (h.2.1.2 i hi)
 outs := fun i hi => QdK (h.2.2.1.2 i hi)
 nin := Nat.le_trans h.2.1.1 hN
 nout := Nat.le_trans h.2.2.1.1 hN
end Go.Am
namespace Go.Am
open Go
variable {H : Type} {P : Program}
theorem Qem {T e : TypeId} {N : Nat} {t : Ty} {xs : (Ty.sl t).den} {d : DataW H} (hu : P.underlying T = some (.slice e)) (hr : RD (.sl t) xs d) (hw : ∀ w ∈ d.weights P T, w ≤ N) : xs.length * P.bytesOf e ≤ N := by
 rcases hr with ⟨rfl, rfl⟩ | ⟨es, sp, rfl, h1, h2⟩
 ·simp
 ·simp only [DataW.weights, hu] at hw
  have h3 := hw ((es.length + sp.length) * P.bytesOf e) (by simp)
  have h4 : es.length * P.bytesOf e ≤ (es.length + sp.length) * P.bytesOf e := Nat.mul_le_mul_right _ (Nat.le_add_right _ _)
  rw [show xs.length = es.length by first | exact h1 | exact h1.symm]
  exact Nat.le_trans h4 h3
theorem QfD {T T0 T1 T2 T3 e1 e2 : TypeId} {fs : Array Field} {N : Nat} {t : TTx} {d : DataW H} (hu : P.underlying T = some (.struct fs)) (hf : fs.toList.map (·.type) = [T0, T1, T2, T3])
  (h1 : P.underlying T1 = some (.slice e1)) (h2 : P.underlying T2 = some (.slice e2)) (hr : RD txTy t d) (hw : ∀ w ∈ d.weights P T, w ≤ N) : t.2.1.length * P.bytesOf e1 ≤ N ∧ t.2.2.1.length * P.bytesOf e2 ≤ N := by
 obtain ⟨d0, r0, rfl, _, d1, r1, hd1, hr1, d2, r2, hd2, hr2, _⟩ := hr
 cases hd1
 cases hd2
 simp only [DataW.weights, hu, hf, DataW.weightsEach, List.mem_append] at hw
 exact ⟨Qem h1 hr1 fun w h => hw w (.inr (.inl h)), Qem h2 hr2 fun w h => hw w (.inr (.inr (.inl h)))⟩
theorem QdQ {T0 T1 : TypeId} {Ts : List TypeId} {d0 d1 : DataW H} {ds gs : List (DataW H)} {ps vs : List TypeId} (hp : ps = T0 :: T1 :: Ts) {N : Nat} (h : (DataW.weightsEach P (ps ++ vs) ((d0 :: d1 :: ds) ++ gs)).all (· ≤ N) = true) : ∀ w ∈ d1.weights P T1, w ≤ N := by
 subst hp
 simp only [List.cons_append, DataW.weightsEach, List.all_append, Bool.and_eq_true, List.all_eq_true, decide_eq_true_eq] at h
 exact h.2.1
def Qar (P : Program) (T : TypeId) : Bool :=
 match P.underlying T with
 | some (.struct fs) => match fs.toList.map (·.type) with
  | [_, a, b, _] => match P.underlying a, P.underlying b with
   | some (.slice e1), some (.slice e2) => P.bytesOf e1 == 64 && P.bytesOf e2 == 24
   | _, _ => false
  | _ => false
 | _ => false
theorem Q9q {T : TypeId} (h : Qar P T = true) {N : Nat} {t : TTx} {d : DataW H} (hr : RD txTy t d) (hw : ∀ w ∈ d.weights P T, w ≤ N) : t.2.1.length * 64 ≤ N ∧ t.2.2.1.length * 24 ≤ N := by
 unfold Qar at h
 split at h
 ·rename_i fs hu
  split at h
  ·rename_i T0 a b T3 hf
   split at h
   ·rename_i e1 e2 h1 h2
    simp only [Bool.and_eq_true, beq_iff_eq] at h
    have := QfD hu hf h1 h2 hr hw
    rw [h.1, h.2] at this
    exact this
   ·cases h
  ·cases h
 ·cases h
def Qf1 (P : Program) : List TypeId → Bool
 | _ :: T1 :: _ => Qar P T1
 | _ => false
theorem Qfw {ps vs : List TypeId} (hp : Qf1 P ps = true) {N : Nat} {ts : List Ty} {t0 : Ty} {x : dens (t0 :: txTy :: ts)} {ds gs : List (DataW H)} (hd : RDa (t0 :: txTy :: ts) x ds) (h : (DataW.weightsEach P (ps ++ vs) (ds ++ gs)).all (· ≤ N) = true) : x.2.1.2.1.length * 64 ≤ N ∧ x.2.1.2.2.1.length * 24 ≤ N := by
 obtain ⟨d0, r0, rfl, h0, d1, r1, rfl, h1, _⟩ := hd
 match ps, hp with
 | T0 :: T1 :: Ts, hp => exact Q9q hp h1 (QdQ rfl h)
end Go.Am
