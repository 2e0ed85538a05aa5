/- A part of a proof: a machine of abstract values that tells what functions of the program compute, and the plain facts on them. -/
import Derived.Test.YtnibopdcpbebcaaGreatAm12
import Derived.KernelRfl
set_option linter.unusedVariables false
set_option linter.unusedSimpArgs false
set_option linter.unnecessarySimpa false
set_option linter.unusedSectionVars false
namespace Go.Am
abbrev Qh9 : Ty := (.pair (.int .u32) .unit)
abbrev Qh8 : Type := (List (Int × (ByteArray × Unit)))
abbrev Qh7 : Type := (ByteArray × (Int × (Int × Unit)))
abbrev Qh6 : Type := (Int × (Unit × (Unit × (Int × Unit))))
abbrev Qh5 : Type := (List ((List Int) × (Int × (ByteArray × (Int × Unit)))))
abbrev Qh4 : Ty := (.pair .str (.pair (.int .i64) (.pair (.int .i64) .unit)))
abbrev Qh3 : Type := (List (((List Int) × (Int × Unit)) × (ByteArray × (Int × Unit))))
abbrev Qh2 : Type := ((Int × ((List Int) × ((List Int) × (Int × (Int × (Int × Unit)))))) × (Unit × Unit))
abbrev Qh1 : Ty := (.pair (.arr 32 (.int .u8)) (.pair (.int .u32) (.pair .str  Qh9 )))
abbrev Qh0 : Type := (Int × Int ×  Qh2  × Unit)
abbrev QgZ : Type := (Int × ( Qh5  × ( Qh8  × (Int × Unit))))
abbrev QgY : Type := (List  QgZ )
abbrev QgX : Type := (Int × ( Qh3  × ( Qh8  × (Int × Unit))))
abbrev QgW : Type := (List  QgX )
abbrev QgV : Ty := (.pair (.int .u32) (.pair (.arr 32 (.int .u8)) (.pair (.arr 32 (.int .u8)) (.pair (.int .u32) (.pair (.int .u32)  Qh9 )))))
abbrev QgU : Ty := (.pair (.int .u32) (.pair (.sl  Qh1 ) (.pair (.sl (.pair (.int .u64) (.pair .str .unit)))  Qh9 )))
abbrev QgT : Type := ((Int × ((List Int) × ((List Int) × (Int × (Int × (Int × Unit)))))) × ( QgY  × Unit))
abbrev QgS : Ty := (.pair (.int .u32) (.pair (.sl (.pair (.pair (.arr 32 (.int .u8))  Qh9 ) (.pair .str  Qh9 ))) (.pair (.sl (.pair (.int .u64) (.pair .str .unit)))  Qh9 )))
abbrev QgR : Type := ((Int × ((List Int) × ((List Int) × (Int × (Int × (Int × Unit)))))) × ( QgW  × Unit))
abbrev QgQ : Ty := (.pair  QgV  (.pair (.sl  QgU ) .unit))
abbrev QgP : Ty := (.pair  QgV  (.pair (.sl  QgS ) .unit))
abbrev QgO : Type := (ByteArray × ByteArray × Int × ByteArray × Int ×  QgR  ×  QgT  × Unit)
end Go.Am
namespace Go.Am
open Go Go.Proofs
set_option maxRecDepth 100000
abbrev Qj.l0.σ : Type := Int × QgX × Qh6 × Qh6 × Qh5 × Unit
abbrev Qj.l0.τ : Type := (QgX × Qh6 × Qh6 × Qh5 × Unit)
def Qj.l0.r (k : Nat) {ρ : Type} (x : Qj.l0.σ) (kn : Qj.l0.σ → Option ρ) (ke : Qj.l0.τ → Option ρ) : Option ρ :=
 let v2 : Qh3 := x.2.1.2.1
 let v3 : Int := (((List.length v2) : Nat) : Int)
 bif (decide (x.1 < v3)) then (let v4 : Qh3 := x.2.1.2.1
 bif (decide (((0 : Int) ≤ x.1) ∧ (x.1 < (((List.length v4) : Nat) : Int)))) then (let v5 : (List Int) := (List.getD v4 (Int.toNat x.1) (((List.replicate 32 (0 : Int)), ((0 : Int), ())), (ByteArray.empty, ((0 : Int), ())))).1.1
 let v6 : Qh3 := x.2.1.2.1
 bif (decide (((0 : Int) ≤ x.1) ∧ (x.1 < (((List.length v6) : Nat) : Int)))) then (let v7 : Int := (List.getD v6 (Int.toNat x.1) (((List.replicate 32 (0 : Int)), ((0 : Int), ())), (ByteArray.empty, ((0 : Int), ())))).1.2.1
 let v8 : Qh3 := x.2.1.2.1
 bif (decide (((0 : Int) ≤ x.1) ∧ (x.1 < (((List.length v8) : Nat) : Int)))) then (let v9 : ByteArray := (List.getD v8 (Int.toNat x.1) (((List.replicate 32 (0 : Int)), ((0 : Int), ())), (ByteArray.empty, ((0 : Int), ())))).2.1
 let v10 : Qh3 := x.2.1.2.1
 bif (decide (((0 : Int) ≤ x.1) ∧ (x.1 < (((List.length v10) : Nat) : Int)))) then (let v11 : Int := (List.getD v10 (Int.toNat x.1) (((List.replicate 32 (0 : Int)), ((0 : Int), ())), (ByteArray.empty, ((0 : Int), ())))).2.2.1
 bif (Nat.ble (((List.length x.2.2.2.2.1) + (List.length (List.set (List.replicate 1 ((List.replicate 32 (0 : Int)), ((0 : Int), (ByteArray.empty, ((0 : Int), ()))))) 0 (v5, (v7, (v9, (v11, ()))))))) * 64) 140737488355328) then (let v12 : Int := (IntKind.wrap IntKind.i64 (x.1 + (1 : Int)))
 kn (v12, ((x.2.1.1, (x.2.1.2.1, (x.2.1.2.2.1, (x.2.1.2.2.2.1, ())))), ((x.2.2.1.1, ((), ((), (x.2.2.1.2.2.2.1, ())))), ((x.2.2.2.1.1, ((), ((), (x.2.2.2.1.2.2.2.1, ())))), ((x.2.2.2.2.1 ++ (List.set (List.replicate 1 ((List.replicate 32 (0 : Int)), ((0 : Int), (ByteArray.empty, ((0 : Int), ()))))) 0 (v5, (v7, (v9, (v11, ())))))), ())))))) else (none)) else (none)) else (none)) else (none)) else (none)) else (ke ((x.2.1.1, (x.2.1.2.1, (x.2.1.2.2.1, (x.2.1.2.2.2.1, ())))), ((x.2.2.1.1, ((), ((), (x.2.2.1.2.2.2.1, ())))), ((x.2.2.2.1.1, ((), ((), (x.2.2.2.1.2.2.2.1, ())))), (x.2.2.2.2.1, ())))))
def Qj.l0 (k : Nat) : Nat → Qj.l0.σ → Option Qj.l0.τ := Q14 (Qj.l0.r k)
def Qj.l0.T : StT := ⟨us 1 ++ .ptr 0 [] :: .ptr 1 [] :: .ptr 2 [] :: .dat (.int .i64) :: us 71, [.dat QgS, .pair (.dat (.int .u32)) (.pair (.nils) (.pair (.nils) (.dat Qh9))), .pair (.dat (.int .u32)) (.pair (.vsl 3) (.pair (.nils) (.dat Qh9))), .vec Qh1]⟩
def Qj.l0.os : List Out := [⟨(.exit 0), [.mask [1, 2, 3], .auto 0], ⟨us 1 ++ .ptr 0 [] :: .ptr 1 [] :: .ptr 2 [] :: us 72, [.dat QgS, .pair (.dat (.int .u32)) (.pair (.nils) (.pair (.nils) (.dat Qh9))), .pair (.dat (.int .u32)) (.pair (.vsl 3) (.pair (.nils) (.dat Qh9))), .vec Qh1]⟩⟩]
abbrev Qj.l1.σ : Type := Int × QgX × Qh6 × Qh6 × Qh5 × Qh8 × Unit
abbrev Qj.l1.τ : Type := (Qh6 × Qh6 × Qh5 × Qh8 × Unit)
def Qj.l1.r (k : Nat) {ρ : Type} (x : Qj.l1.σ) (kn : Qj.l1.σ → Option ρ) (ke : Qj.l1.τ → Option ρ) : Option ρ :=
 let v14 : Qh8 := x.2.1.2.2.1
 let v15 : Int := (((List.length v14) : Nat) : Int)
 bif (decide (x.1 < v15)) then (let v16 : Qh8 := x.2.1.2.2.1
 bif (decide (((0 : Int) ≤ x.1) ∧ (x.1 < (((List.length v16) : Nat) : Int)))) then (let v17 : Int := (List.getD v16 (Int.toNat x.1) ((0 : Int), (ByteArray.empty, ()))).1
 let v18 : Qh8 := x.2.1.2.2.1
 bif (decide (((0 : Int) ≤ x.1) ∧ (x.1 < (((List.length v18) : Nat) : Int)))) then (let v19 : ByteArray := (List.getD v18 (Int.toNat x.1) ((0 : Int), (ByteArray.empty, ()))).2.1
 bif (Nat.ble (((List.length x.2.2.2.2.2.1) + (List.length (List.set (List.replicate 1 ((0 : Int), (ByteArray.empty, ()))) 0 (v17, (v19, ()))))) * 24) 140737488355328) then (let v20 : Int := (IntKind.wrap IntKind.i64 (x.1 + (1 : Int)))
 kn (v20, ((x.2.1.1, (x.2.1.2.1, (x.2.1.2.2.1, (x.2.1.2.2.2.1, ())))), ((x.2.2.1.1, ((), ((), (x.2.2.1.2.2.2.1, ())))), ((x.2.2.2.1.1, ((), ((), (x.2.2.2.1.2.2.2.1, ())))), (x.2.2.2.2.1, ((x.2.2.2.2.2.1 ++ (List.set (List.replicate 1 ((0 : Int), (ByteArray.empty, ()))) 0 (v17, (v19, ())))), ()))))))) else (none)) else (none)) else (none)) else (ke ((x.2.2.1.1, ((), ((), (x.2.2.1.2.2.2.1, ())))), ((x.2.2.2.1.1, ((), ((), (x.2.2.2.1.2.2.2.1, ())))), (x.2.2.2.2.1, (x.2.2.2.2.2.1, ())))))
def Qj.l1 (k : Nat) : Nat → Qj.l1.σ → Option Qj.l1.τ := Q14 (Qj.l1.r k)
def Qj.l1.T : StT := ⟨us 1 ++ .ptr 0 [] :: .ptr 1 [] :: .ptr 2 [] :: us 1 ++ .dat (.int .i64) :: us 70, [.dat QgS, .pair (.dat (.int .u32)) (.pair (.nils) (.pair (.nils) (.dat Qh9))), .pair (.dat (.int .u32)) (.pair (.vsl 3) (.pair (.vsl 4) (.dat Qh9))), .vec Qh1, .vec (.pair (.int .u64) (.pair .str .unit))]⟩
def Qj.l1.os : List Out := [⟨(.exit 2), [.mask [2, 3], .auto 0], ⟨us 2 ++ .ptr 0 [] :: .ptr 1 [] :: us 72, [.pair (.dat (.int .u32)) (.pair (.nils) (.pair (.nils) (.dat Qh9))), .pair (.dat (.int .u32)) (.pair (.vsl 2) (.pair (.vsl 3) (.dat Qh9))), .vec Qh1, .vec (.pair (.int .u64) (.pair .str .unit))]⟩⟩]
def Qj.c (k : Nat) {ρ : Type} (t : QgX) (K : QgZ × Unit → Option ρ) : Option ρ :=
 let v0 : Int := t.1
 let v1 : Int := t.2.2.2.1
 (Qj.l0 k k ((0 : Int), ((t.1, (t.2.1, (t.2.2.1, (t.2.2.2.1, ())))), (((0 : Int), ((), ((), ((0 : Int), ())))), ((v0, ((), ((), (v1, ())))), ([], ())))))).bind fun t13 => (Qj.l1 k k ((0 : Int), ((t13.1.1, (t13.1.2.1, (t13.1.2.2.1, (t13.1.2.2.2.1, ())))), ((t13.2.1.1, ((), ((), (t13.2.1.2.2.2.1, ())))), ((t13.2.2.1.1, ((), ((), (t13.2.2.1.2.2.2.1, ())))), (t13.2.2.2.1, ([], ()))))))).bind fun t21 => K ((t21.2.1.1, (t21.2.2.1, (t21.2.2.2.1, (t21.2.1.2.2.2.1, ())))), ())
def Qj (k : Nat) (t : QgX) : Option (QgZ × Unit) := Qj.c k t some
def Qj.tin : List Ty := [QgS]
def Qj.tout : List Ty := [QgU]
def Qj.sem (k : Nat) : QP := QW Qj.tin Qj.tout fun x => Qj k x.1
noncomputable def Qj.ctx (k : Nat) : Ctx := ⟨Tryz.prog, gam []⟩
theorem Qj.gok (k : Nat) : ∀ f, QF Tryz.prog f ((Qj.ctx k).Γ f) := QX
theorem Qj.l0.round (k : Nat) : Q10 (Qj.ctx k) (QM (Func.code Tryz.f44) [1, 1, 0, 1, 0, 0]) (.nil) Qj.l0.T [.mask [1, 2, 3, 4], .auto 0] Qj.l0.os (Qj.l0.r k) := by
 intro ρ x kn ke; kernel_rfl
theorem Qj.l0.ok (k : Nat) : StOK 0 Tryz.prog (.loop (QM (Func.code Tryz.f44) [1, 1, 0, 1, 0, 0])) (Qn Qj.l0.T Qj.l0.os (Qj.l0 k k)) :=
 Q11 (C := Qj.ctx k) (Qj.gok k) Tryz.mix Q1.nil (by kernel_rfl) (by kernel_rfl) (by kernel_rfl) (Qj.l0.round k) k
theorem Qj.l1.round (k : Nat) : Q10 (Qj.ctx k) (QM (Func.code Tryz.f44) [1, 1, 1, 0, 1, 0, 0]) (.nil) Qj.l1.T [.mask [1, 2, 3, 5], .auto 0] Qj.l1.os (Qj.l1.r k) := by
 intro ρ x kn ke; kernel_rfl
theorem Qj.l1.ok (k : Nat) : StOK 0 Tryz.prog (.loop (QM (Func.code Tryz.f44) [1, 1, 1, 0, 1, 0, 0])) (Qn Qj.l1.T Qj.l1.os (Qj.l1 k k)) :=
 Q11 (C := Qj.ctx k) (Qj.gok k) Tryz.mix Q1.nil (by kernel_rfl) (by kernel_rfl) (by kernel_rfl) (Qj.l1.round k) k
def Qj.ann (k : Nat) : Ann := .node [] none (.nil) (.node [] none (.nil) (.node [] none (.node [] none (.nil) (.node [] none (.node [.mask [1, 2, 3, 4], .auto 0, .own (.blk 2 [1]) Qh1] (some (Qn Qj.l0.T Qj.l0.os (Qj.l0 k k))) .nil .nil) (.nil))) (.node [] none (.node [] none (.nil) (.node [] none (.node [.mask [1, 2, 3, 5], .auto 0, .own (.blk 2 [2]) (.pair (.int .u64) (.pair .str .unit))] (some (Qn Qj.l1.T Qj.l1.os (Qj.l1 k k))) .nil .nil) (.nil))) (.nil))))
theorem Qj.body (k : Nat) : Q0R (Qj.ctx k) Tryz.f44 (Func.code Tryz.f44) (Qj.ann k) Qj.tin Qj.tout (fun x K => Qj.c k x.1 K) := by
 intro ρ x K; kernel_rfl
theorem Qj.sem_ok (k : Nat) : QF Tryz.prog 44 (Qj.sem k) :=
 QD (C := Qj.ctx k) (Qj.gok k) Tryz.mix (c := Func.code Tryz.f44) (ann := Qj.ann k) (tin := Qj.tin) (tout := Qj.tout) (fun x K => Qj.c k x.1 K) Tryz.func44 (by kernel_rfl) (by kernel_rfl) (Q1.seq Q1.nil (Q1.seq Q1.nil (Q1.seq (Q1.seq Q1.nil (Q1.block (Q1.loop (by kernel_rfl) (Qj.l0.ok k)))) (Q1.seq (Q1.seq Q1.nil (Q1.block (Q1.loop (by kernel_rfl) (Qj.l1.ok k)))) Q1.nil)))) (Qj.body k)
abbrev QG.l0.σ : Type := Int × QgR × Qh2 × Qh2 × QgY × Unit
abbrev QG.l0.τ : Type := (Qh2 × Qh2 × QgY × Unit)
def QG.l0.r (k : Nat) {ρ : Type} (x : QG.l0.σ) (kn : QG.l0.σ → Option ρ) (ke : QG.l0.τ → Option ρ) : Option ρ :=
 let v1 : QgW := x.2.1.2.1
 let v2 : Int := (((List.length v1) : Nat) : Int)
 bif (decide (x.1 < v2)) then (let v3 : QgW := x.2.1.2.1
 bif (decide (((0 : Int) ≤ x.1) ∧ (x.1 < (((List.length v3) : Nat) : Int)))) then ((Qj k ((List.getD v3 (Int.toNat x.1) ((0 : Int), ([], ([], ((0 : Int), ()))))).1, ((List.getD v3 (Int.toNat x.1) ((0 : Int), ([], ([], ((0 : Int), ()))))).2.1, ((List.getD v3 (Int.toNat x.1) ((0 : Int), ([], ([], ((0 : Int), ()))))).2.2.1, ((List.getD v3 (Int.toNat x.1) ((0 : Int), ([], ([], ((0 : Int), ()))))).2.2.2.1, ()))))).bind fun t4 => bif (Nat.ble (((List.length x.2.2.2.2.1) + (List.length (List.set (List.replicate 1 ((0 : Int), ([], ([], ((0 : Int), ()))))) 0 (t4.1.1, (t4.1.2.1, (t4.1.2.2.1, (t4.1.2.2.2.1, ()))))))) * 64) 140737488355328) then (let v5 : Int := (IntKind.wrap IntKind.i64 (x.1 + (1 : Int)))
 kn (v5, (((x.2.1.1.1, (x.2.1.1.2.1, (x.2.1.1.2.2.1, (x.2.1.1.2.2.2.1, (x.2.1.1.2.2.2.2.1, (x.2.1.1.2.2.2.2.2.1, ())))))), (x.2.1.2.1, ())), (((x.2.2.1.1.1, (x.2.2.1.1.2.1, (x.2.2.1.1.2.2.1, (x.2.2.1.1.2.2.2.1, (x.2.2.1.1.2.2.2.2.1, (x.2.2.1.1.2.2.2.2.2.1, ())))))), ((), ())), (((x.2.2.2.1.1.1, (x.2.2.2.1.1.2.1, (x.2.2.2.1.1.2.2.1, (x.2.2.2.1.1.2.2.2.1, (x.2.2.2.1.1.2.2.2.2.1, (x.2.2.2.1.1.2.2.2.2.2.1, ())))))), ((), ())), ((x.2.2.2.2.1 ++ (List.set (List.replicate 1 ((0 : Int), ([], ([], ((0 : Int), ()))))) 0 (t4.1.1, (t4.1.2.1, (t4.1.2.2.1, (t4.1.2.2.2.1, ())))))), ())))))) else (none)) else (none)) else (ke (((x.2.2.1.1.1, (x.2.2.1.1.2.1, (x.2.2.1.1.2.2.1, (x.2.2.1.1.2.2.2.1, (x.2.2.1.1.2.2.2.2.1, (x.2.2.1.1.2.2.2.2.2.1, ())))))), ((), ())), (((x.2.2.2.1.1.1, (x.2.2.2.1.1.2.1, (x.2.2.2.1.1.2.2.1, (x.2.2.2.1.1.2.2.2.1, (x.2.2.2.1.1.2.2.2.2.1, (x.2.2.2.1.1.2.2.2.2.2.1, ())))))), ((), ())), (x.2.2.2.2.1, ()))))
def QG.l0 (k : Nat) : Nat → QG.l0.σ → Option QG.l0.τ := Q14 (QG.l0.r k)
def QG.l0.T : StT := ⟨us 1 ++ .ptr 0 [] :: .ptr 1 [] :: .ptr 2 [] :: .dat (.int .i64) :: us 23, [.dat QgP, .pair (.dat QgV) (.pair (.nils) (.dat .unit)), .pair (.dat QgV) (.pair (.vsl 3) (.dat .unit)), .vec QgU]⟩
def QG.l0.os : List Out := [⟨(.exit 0), [.mask [2, 3], .auto 0], ⟨us 2 ++ .ptr 0 [] :: .ptr 1 [] :: us 24, [.pair (.dat QgV) (.pair (.nils) (.dat .unit)), .pair (.dat QgV) (.pair (.vsl 2) (.dat .unit)), .vec QgU]⟩⟩]
def QG.c (k : Nat) {ρ : Type} (b : QgR) (K : QgT × Unit → Option ρ) : Option ρ :=
 (Q08 k (b.1.1, (b.1.2.1, (b.1.2.2.1, (b.1.2.2.2.1, (b.1.2.2.2.2.1, (b.1.2.2.2.2.2.1, ()))))))).bind fun t0 => (QG.l0 k k ((0 : Int), (((b.1.1, (b.1.2.1, (b.1.2.2.1, (b.1.2.2.2.1, (b.1.2.2.2.2.1, (b.1.2.2.2.2.2.1, ())))))), (b.2.1, ())), ((((0 : Int), ((List.replicate 32 (0 : Int)), ((List.replicate 32 (0 : Int)), ((0 : Int), ((0 : Int), ((0 : Int), ())))))), ((), ())), (((t0.1.1, (t0.1.2.1, (t0.1.2.2.1, (t0.1.2.2.2.1, (t0.1.2.2.2.2.1, (t0.1.2.2.2.2.2.1, ())))))), ((), ())), ([], ())))))).bind fun t6 => K (((t6.2.1.1.1, (t6.2.1.1.2.1, (t6.2.1.1.2.2.1, (t6.2.1.1.2.2.2.1, (t6.2.1.1.2.2.2.2.1, (t6.2.1.1.2.2.2.2.2.1, ())))))), (t6.2.2.1, ())), ())
def QG (k : Nat) (b : QgR) : Option (QgT × Unit) := QG.c k b some
def QG.tin : List Ty := [QgP]
def QG.tout : List Ty := [QgQ]
def QG.sem (k : Nat) : QP := QW QG.tin QG.tout fun x => QG k x.1
noncomputable def QG.ctx (k : Nat) : Ctx := ⟨Tryz.prog, gam [(11, (Q08.sem k)), (44, (Qj.sem k))]⟩
theorem QG.gok (k : Nat) : ∀ f, QF Tryz.prog f ((QG.ctx k).Γ f) := (Qk (Q08.sem_ok k) (Qk (Qj.sem_ok k) QX))
theorem QG.l0.round (k : Nat) : Q10 (QG.ctx k) (QM (Func.code Tryz.f16) [1, 1, 0, 1, 0, 0]) (.nil) QG.l0.T [.mask [1, 2, 3, 4], .auto 0] QG.l0.os (QG.l0.r k) := by
 intro ρ x kn ke; kernel_rfl
theorem QG.l0.ok (k : Nat) : StOK 0 Tryz.prog (.loop (QM (Func.code Tryz.f16) [1, 1, 0, 1, 0, 0])) (Qn QG.l0.T QG.l0.os (QG.l0 k k)) :=
 Q11 (C := QG.ctx k) (QG.gok k) Tryz.mix Q1.nil (by kernel_rfl) (by kernel_rfl) (by kernel_rfl) (QG.l0.round k) k
def QG.ann (k : Nat) : Ann := .node [] none (.nil) (.node [] none (.nil) (.node [] none (.node [] none (.nil) (.node [] none (.node [.mask [1, 2, 3, 4], .auto 0, .own (.blk 2 [1]) QgU] (some (Qn QG.l0.T QG.l0.os (QG.l0 k k))) .nil .nil) (.nil))) (.nil)))
theorem QG.body (k : Nat) : Q0R (QG.ctx k) Tryz.f16 (Func.code Tryz.f16) (QG.ann k) QG.tin QG.tout (fun x K => QG.c k x.1 K) := by
 intro ρ x K; kernel_rfl
theorem QG.sem_ok (k : Nat) : QF Tryz.prog 16 (QG.sem k) :=
 QD (C := QG.ctx k) (QG.gok k) Tryz.mix (c := Func.code Tryz.f16) (ann := QG.ann k) (tin := QG.tin) (tout := QG.tout) (fun x K => QG.c k x.1 K) Tryz.func16 (by kernel_rfl) (by kernel_rfl) (Q1.seq Q1.nil (Q1.seq Q1.nil (Q1.seq (Q1.seq Q1.nil (Q1.block (Q1.loop (by kernel_rfl) (QG.l0.ok k)))) Q1.nil))) (QG.body k)
def Q0l.c (k : Nat) {ρ : Type} (n : Int) (K : ByteArray × Unit → Option ρ) : Option ρ :=
 bif (decide (n < (253 : Int))) then ((Qo k n (1 : Int)).bind fun t0 => K (t0.1, ())) else (bif (decide (n ≤ (65535 : Int))) then ((Qo k n (2 : Int)).bind fun t1 => bif (Nat.ble (1 + (ByteArray.size t1.1)) 9223372036854775807) then (let v2 : ByteArray := ((⟨(List.toArray [253])⟩ : ByteArray) ++ t1.1)
 K (v2, ())) else (none)) else (bif (decide (n ≤ (4294967295 : Int))) then ((Qo k n (4 : Int)).bind fun t3 => bif (Nat.ble (1 + (ByteArray.size t3.1)) 9223372036854775807) then (let v4 : ByteArray := ((⟨(List.toArray [254])⟩ : ByteArray) ++ t3.1)
 K (v4, ())) else (none)) else ((Qo k n (8 : Int)).bind fun t5 => bif (Nat.ble (1 + (ByteArray.size t5.1)) 9223372036854775807) then (let v6 : ByteArray := ((⟨(List.toArray [255])⟩ : ByteArray) ++ t5.1)
 K (v6, ())) else (none))))
def Q0l (k : Nat) (n : Int) : Option (ByteArray × Unit) := Q0l.c k n some
def Q0l.tin : List Ty := [(.int .u64)]
def Q0l.tout : List Ty := [.str]
def Q0l.sem (k : Nat) : QP := QW Q0l.tin Q0l.tout fun x => Q0l k x.1
noncomputable def Q0l.ctx (k : Nat) : Ctx := ⟨Tryz.prog, gam [(36, (Qo.sem k))]⟩
theorem Q0l.gok (k : Nat) : ∀ f, QF Tryz.prog f ((Q0l.ctx k).Γ f) := (Qk (Qo.sem_ok k) QX)
def Q0l.ann (k : Nat) : Ann := .nil
theorem Q0l.body (k : Nat) : Q0R (Q0l.ctx k) Tryz.f45 (Func.code Tryz.f45) (Q0l.ann k) Q0l.tin Q0l.tout (fun x K => Q0l.c k x.1 K) := by
 intro ρ x K; kernel_rfl
theorem Q0l.sem_ok (k : Nat) : QF Tryz.prog 45 (Q0l.sem k) :=
 QD (C := Q0l.ctx k) (Q0l.gok k) Tryz.mix (c := Func.code Tryz.f45) (ann := Q0l.ann k) (tin := Q0l.tin) (tout := Q0l.tout) (fun x K => Q0l.c k x.1 K) Tryz.func45 (by kernel_rfl) (by kernel_rfl) Q1.nil (Q0l.body k)
abbrev Qv.l0.σ : Type := ByteArray × Int × QgT × Unit
abbrev Qv.l0.τ : Type := (ByteArray × Unit)
def Qv.l0.r (k : Nat) {ρ : Type} (x : Qv.l0.σ) (kn : Qv.l0.σ → Option ρ) (ke : Qv.l0.τ → Option ρ) : Option ρ :=
 let v5 : QgY := x.2.2.1.2.1
 let v6 : Int := (((List.length v5) : Nat) : Int)
 bif (decide (x.2.1 < v6)) then (let v7 : QgY := x.2.2.1.2.1
 bif (decide (((0 : Int) ≤ x.2.1) ∧ (x.2.1 < (((List.length v7) : Nat) : Int)))) then ((Q7 k ((List.getD v7 (Int.toNat x.2.1) ((0 : Int), ([], ([], ((0 : Int), ()))))).1, ((List.getD v7 (Int.toNat x.2.1) ((0 : Int), ([], ([], ((0 : Int), ()))))).2.1, ((List.getD v7 (Int.toNat x.2.1) ((0 : Int), ([], ([], ((0 : Int), ()))))).2.2.1, ((List.getD v7 (Int.toNat x.2.1) ((0 : Int), ([], ([], ((0 : Int), ()))))).2.2.2.1, ()))))).bind fun t8 => bif (Nat.ble ((ByteArray.size x.1) + (ByteArray.size t8.1)) 9223372036854775807) then (let v9 : ByteArray := (x.1 ++ t8.1)
 let v10 : Int := (IntKind.wrap IntKind.i64 (x.2.1 + (1 : Int)))
 kn (v9, (v10, (((x.2.2.1.1.1, (x.2.2.1.1.2.1, (x.2.2.1.1.2.2.1, (x.2.2.1.1.2.2.2.1, (x.2.2.1.1.2.2.2.2.1, (x.2.2.1.1.2.2.2.2.2.1, ())))))), (x.2.2.1.2.1, ())), ())))) else (none)) else (none)) else (ke (x.1, ()))
def Qv.l0 (k : Nat) : Nat → Qv.l0.σ → Option Qv.l0.τ := Q14 (Qv.l0.r k)
def Qv.l0.T : StT := ⟨us 1 ++ .ptr 0 [] :: us 1 ++ .dat .str :: .dat (.int .i64) :: us 25, [.dat QgQ]⟩
def Qv.l0.os : List Out := [⟨(.exit 0), [.mask [3], .auto 0], ⟨us 3 ++ .dat .str :: us 26, []⟩⟩]
def Qv.c (k : Nat) {ρ : Type} (b : QgT) (K : ByteArray × Unit → Option ρ) : Option ρ :=
 (Q03 k (b.1.1, (b.1.2.1, (b.1.2.2.1, (b.1.2.2.2.1, (b.1.2.2.2.2.1, (b.1.2.2.2.2.2.1, ()))))))).bind fun t0 => let v1 : QgY := b.2.1
 let v2 : Int := (((List.length v1) : Nat) : Int)
 (Q0l k (IntKind.wrap IntKind.u64 v2)).bind fun t3 => bif (Nat.ble ((ByteArray.size t0.1) + (ByteArray.size t3.1)) 9223372036854775807) then (let v4 : ByteArray := (t0.1 ++ t3.1)
 (Qv.l0 k k (v4, ((0 : Int), (((b.1.1, (b.1.2.1, (b.1.2.2.1, (b.1.2.2.2.1, (b.1.2.2.2.2.1, (b.1.2.2.2.2.2.1, ())))))), (b.2.1, ())), ())))).bind fun t11 => K (t11.1, ())) else (none)
def Qv (k : Nat) (b : QgT) : Option (ByteArray × Unit) := Qv.c k b some
def Qv.tin : List Ty := [QgQ]
def Qv.tout : List Ty := [.str]
def Qv.sem (k : Nat) : QP := QW Qv.tin Qv.tout fun x => Qv k x.1
noncomputable def Qv.ctx (k : Nat) : Ctx := ⟨Tryz.prog, gam [(10, (Q03.sem k)), (45, (Q0l.sem k)), (46, (Q7.sem k))]⟩
theorem Qv.gok (k : Nat) : ∀ f, QF Tryz.prog f ((Qv.ctx k).Γ f) := (Qk (Q03.sem_ok k) (Qk (Q0l.sem_ok k) (Qk (Q7.sem_ok k) QX)))
theorem Qv.l0.round (k : Nat) : Q10 (Qv.ctx k) (QM (Func.code Tryz.f17) [1, 1, 0, 1, 0, 0]) (.nil) Qv.l0.T [.mask [1, 3, 4], .auto 0] Qv.l0.os (Qv.l0.r k) := by
 intro ρ x kn ke; kernel_rfl
theorem Qv.l0.ok (k : Nat) : StOK 0 Tryz.prog (.loop (QM (Func.code Tryz.f17) [1, 1, 0, 1, 0, 0])) (Qn Qv.l0.T Qv.l0.os (Qv.l0 k k)) :=
 Q11 (C := Qv.ctx k) (Qv.gok k) Tryz.mix Q1.nil (by kernel_rfl) (by kernel_rfl) (by kernel_rfl) (Qv.l0.round k) k
def Qv.ann (k : Nat) : Ann := .node [] none (.nil) (.node [] none (.nil) (.node [] none (.node [] none (.nil) (.node [] none (.node [.mask [1, 3, 4], .auto 0] (some (Qn Qv.l0.T Qv.l0.os (Qv.l0 k k))) .nil .nil) (.nil))) (.nil)))
theorem Qv.body (k : Nat) : Q0R (Qv.ctx k) Tryz.f17 (Func.code Tryz.f17) (Qv.ann k) Qv.tin Qv.tout (fun x K => Qv.c k x.1 K) := by
 intro ρ x K; kernel_rfl
theorem Qv.sem_ok (k : Nat) : QF Tryz.prog 17 (Qv.sem k) :=
 QD (C := Qv.ctx k) (Qv.gok k) Tryz.mix (c := Func.code Tryz.f17) (ann := Qv.ann k) (tin := Qv.tin) (tout := Qv.tout) (fun x K => Qv.c k x.1 K) Tryz.func17 (by kernel_rfl) (by kernel_rfl) (Q1.seq Q1.nil (Q1.seq Q1.nil (Q1.seq (Q1.seq Q1.nil (Q1.block (Q1.loop (by kernel_rfl) (Qv.l0.ok k)))) Q1.nil))) (Qv.body k)
abbrev QB.l0.σ : Type := Int × QgT × Unit
abbrev QB.l0.τ : Type := (Int × Unit) ⊕ (Unit)
def QB.l0.r (k : Nat) {ρ : Type} (x : QB.l0.σ) (kn : QB.l0.σ → Option ρ) (ke : QB.l0.τ → Option ρ) : Option ρ :=
 let v0 : QgY := x.2.1.2.1
 let v1 : Int := (((List.length v0) : Nat) : Int)
 bif (decide (x.1 < v1)) then (let v2 : QgY := x.2.1.2.1
 bif (decide (((0 : Int) ≤ x.1) ∧ (x.1 < (((List.length v2) : Nat) : Int)))) then ((Qb k ((List.getD v2 (Int.toNat x.1) ((0 : Int), ([], ([], ((0 : Int), ()))))).1, ((List.getD v2 (Int.toNat x.1) ((0 : Int), ([], ([], ((0 : Int), ()))))).2.1, ((List.getD v2 (Int.toNat x.1) ((0 : Int), ([], ([], ((0 : Int), ()))))).2.2.1, ((List.getD v2 (Int.toNat x.1) ((0 : Int), ([], ([], ((0 : Int), ()))))).2.2.2.1, ()))))).bind fun t3 => bif (t3.1 != (0 : Int)) then (ke (.inl (t3.1, ()))) else (let v4 : Int := (IntKind.wrap IntKind.i64 (x.1 + (1 : Int)))
 kn (v4, (((x.2.1.1.1, (x.2.1.1.2.1, (x.2.1.1.2.2.1, (x.2.1.1.2.2.2.1, (x.2.1.1.2.2.2.2.1, (x.2.1.1.2.2.2.2.2.1, ())))))), (x.2.1.2.1, ())), ())))) else (none)) else (ke (.inr ()))
def QB.l0 (k : Nat) : Nat → QB.l0.σ → Option QB.l0.τ := Q14 (QB.l0.r k)
def QB.l0.T : StT := ⟨us 1 ++ .ptr 0 [] :: us 1 ++ .dat (.int .i64) :: us 17, [.dat QgQ]⟩
def QB.l0.os : List Out := [⟨.ret, [.mask [2], .auto 0], ⟨us 2 ++ .dat (.int .i64) :: us 18, []⟩⟩, ⟨(.exit 0), [.mask [], .auto 0], ⟨us 21, []⟩⟩]
def QB.c (k : Nat) {ρ : Type} (b : QgT) (K : Int × Unit → Option ρ) : Option ρ :=
 (QB.l0 k k ((0 : Int), (((b.1.1, (b.1.2.1, (b.1.2.2.1, (b.1.2.2.2.1, (b.1.2.2.2.2.1, (b.1.2.2.2.2.2.1, ())))))), (b.2.1, ())), ()))).bind fun t5 => (match t5 with | .inl t6 => (K (t6.1, ())) | .inr (t7) => (K ((0 : Int), ())))
def QB (k : Nat) (b : QgT) : Option (Int × Unit) := QB.c k b some
def QB.tin : List Ty := [QgQ]
def QB.tout : List Ty := [(.int .i64)]
def QB.sem (k : Nat) : QP := QW QB.tin QB.tout fun x => QB k x.1
noncomputable def QB.ctx (k : Nat) : Ctx := ⟨Tryz.prog, gam [(47, (Qb.sem k))]⟩
theorem QB.gok (k : Nat) : ∀ f, QF Tryz.prog f ((QB.ctx k).Γ f) := (Qk (Qb.sem_ok k) QX)
theorem QB.l0.round (k : Nat) : Q10 (QB.ctx k) (QM (Func.code Tryz.f18) [1, 0, 1, 0, 0]) (.nil) QB.l0.T [.mask [1, 3], .auto 0] QB.l0.os (QB.l0.r k) := by
 intro ρ x kn ke; kernel_rfl
theorem QB.l0.ok (k : Nat) : StOK 0 Tryz.prog (.loop (QM (Func.code Tryz.f18) [1, 0, 1, 0, 0])) (Qn QB.l0.T QB.l0.os (QB.l0 k k)) :=
 Q11 (C := QB.ctx k) (QB.gok k) Tryz.mix Q1.nil (by kernel_rfl) (by kernel_rfl) (by kernel_rfl) (QB.l0.round k) k
def QB.ann (k : Nat) : Ann := .node [] none (.nil) (.node [] none (.node [] none (.nil) (.node [] none (.node [.mask [1, 3], .auto 0] (some (Qn QB.l0.T QB.l0.os (QB.l0 k k))) .nil .nil) (.nil))) (.nil))
theorem QB.body (k : Nat) : Q0R (QB.ctx k) Tryz.f18 (Func.code Tryz.f18) (QB.ann k) QB.tin QB.tout (fun x K => QB.c k x.1 K) := by
 intro ρ x K; kernel_rfl
theorem QB.sem_ok (k : Nat) : QF Tryz.prog 18 (QB.sem k) :=
 QD (C := QB.ctx k) (QB.gok k) Tryz.mix (c := Func.code Tryz.f18) (ann := QB.ann k) (tin := QB.tin) (tout := QB.tout) (fun x K => QB.c k x.1 K) Tryz.func18 (by kernel_rfl) (by kernel_rfl) (Q1.seq Q1.nil (Q1.seq (Q1.seq Q1.nil (Q1.block (Q1.loop (by kernel_rfl) (QB.l0.ok k)))) Q1.nil)) (QB.body k)
abbrev Qz.p0.σ : Type := Int × Int × Int × Int × Qh7 × Unit
abbrev Qz.p0.τ : Type := (Int × Int × Int × Qh7 × Unit)
def Qz.p0.r (k : Nat) {ρ : Type} (x : Qz.p0.σ) (K : Qz.p0.τ → Option ρ) : Option ρ :=
 bif (x.2.2.2.1 == (0 : Int)) then (bif (decide (x.2.1 > x.1)) then (K (x.2.1, (x.2.2.1, ((5 : Int), ((x.2.2.2.2.1.1, (x.2.2.2.2.1.2.1, (x.2.2.2.2.1.2.2.1, ()))), ()))))) else (K (x.2.1, (x.2.2.1, (x.2.2.2.1, ((x.2.2.2.2.1.1, (x.2.2.2.2.1.2.1, (x.2.2.2.2.1.2.2.1, ()))), ())))))) else (K (x.2.1, (x.2.2.1, (x.2.2.2.1, ((x.2.2.2.2.1.1, (x.2.2.2.2.1.2.1, (x.2.2.2.2.1.2.2.1, ()))), ())))))
def Qz.p0 (k : Nat) (x : Qz.p0.σ) : Option Qz.p0.τ := Qz.p0.r k x some
def Qz.p0.T : StT := ⟨.ptr 0 [] :: .dat (.int .u64) :: us 3 ++ .dat (.int .u64) :: .dat (.int .i64) :: .dat (.int .i64) :: us 34, [.dat Qh4]⟩
def Qz.p0.os : List Out := [⟨.normal, [.mask [0, 5, 6, 7], .auto 1], ⟨.ptr 0 [] :: us 4 ++ .dat (.int .u64) :: .dat (.int .i64) :: .dat (.int .i64) :: us 34, [.dat Qh4]⟩⟩]
abbrev Qz.τ : Type := (Int × Qh7 × Unit)
def Qz.c (k : Nat) {ρ : Type} (most : Int) (b0 : Qh7) (K : Qz.τ → Option ρ) : Option ρ :=
 (Q0k k (b0.1, (b0.2.1, (b0.2.2.1, ())))).bind fun t0 => bif (t0.1 != (0 : Int)) then (K ((0 : Int), ((t0.2.1.1, (t0.2.1.2.1, (t0.2.1.2.2.1, ()))), ()))) else (let v1 : ByteArray := t0.2.1.1
 let v2 : Int := t0.2.1.2.1
 (QR k v1 v2).bind fun t3 => let v4 : Int := t3.1
 let v5 : Int := t3.2.1
 let v6 : Int := t3.2.2.1
 (Qz.p0 k (most, (v4, (v5, (v6, ((t0.2.1.1, (t0.2.1.2.1, (t0.2.1.2.2.1, ()))), ())))))).bind fun t7 => bif (t7.2.2.1 != (0 : Int)) then (K ((0 : Int), ((t7.2.2.2.1.1, (t7.2.2.2.1.2.1, (t7.2.2.1, ()))), ()))) else (K (t7.1, ((t7.2.2.2.1.1, (t7.2.1, (t7.2.2.2.1.2.2.1, ()))), ()))))
def Qz (k : Nat) (most : Int) (b0 : Qh7) : Option Qz.τ := Qz.c k most b0 some
def Qz.T : Q1T := ⟨[.ptr 0 [], .dat (.int .u64)], [.dat Qh4], 1⟩
def Qz.os : List Out := [⟨.ret, [.freeze (.slot 0), .auto 1], ⟨[.dat (.int .u64)], [.dat Qh4]⟩⟩]
def Qz.sem (k : Nat) : QP := Q24 Qz.T Qz.os fun x => Qz k x.1 x.2.1
noncomputable def Qz.ctx (k : Nat) : Ctx := ⟨Tryz.prog, gam [(30, (Q0k.sem k)), (78, (QR.sem k))]⟩
theorem Qz.gok (k : Nat) : ∀ f, QF Tryz.prog f ((Qz.ctx k).Γ f) := (Qk (Q0k.sem_ok k) (Qk (QR.sem_ok k) QX))
theorem Qz.p0.is (k : Nat) : Q1O (Qz.ctx k) (QM (Func.code Tryz.f48) [1, 1, 1, 0]) (.nil) Qz.p0.T Qz.p0.os (Qz.p0.r k) := by
 intro ρ x K; kernel_rfl
theorem Qz.p0.ok (k : Nat) : StOK 1 Tryz.prog (QM (Func.code Tryz.f48) [1, 1, 1, 0]) (Qn Qz.p0.T Qz.p0.os (Qz.p0 k)) :=
 Q1F (C := Qz.ctx k) (T := Qz.p0.T) (os := Qz.p0.os) (Qz.gok k) Tryz.mix (fun x K => Qz.p0.r k x K) Q1.nil (by kernel_rfl) (by kernel_rfl) (Qz.p0.is k)
def Qz.ann (k : Nat) : Ann := .node [] none (.nil) (.node [] none (.nil) (.node [] none (.nil) (.node [] none (.node [.mask [0, 1, 5, 6, 7], .auto 1] (some (Qn Qz.p0.T Qz.p0.os (Qz.p0 k))) .nil .nil) (.nil))))
theorem Qz.body (k : Nat) : Q23 (Qz.ctx k) Tryz.f48 (Func.code Tryz.f48) (Qz.ann k) Qz.T Qz.os (fun x K => Qz.c k x.1 x.2.1 K) := by
 intro ρ x K; kernel_rfl
theorem Qz.sem_ok (k : Nat) : QF Tryz.prog 48 (Qz.sem k) :=
 Q1x (C := Qz.ctx k) (Qz.gok k) Tryz.mix (c := Func.code Tryz.f48) (ann := Qz.ann k) (T := Qz.T) (os := Qz.os) (fun x K => Qz.c k x.1 x.2.1 K) Tryz.func48 (by kernel_rfl) (by kernel_rfl) (Q1.seq Q1.nil (Q1.seq Q1.nil (Q1.seq Q1.nil (Q1.seq (Q1.loop (by kernel_rfl) (Qz.p0.ok k)) Q1.nil)))) (Qz.body k) (by kernel_rfl) (by kernel_rfl) (by kernel_rfl)
abbrev Q0W.τ : Type := (Int × Qh7 × Unit)
def Q0W.c (k : Nat) {ρ : Type} (b0 : Qh7) (K : Q0W.τ → Option ρ) : Option ρ :=
 let v0 : Int := b0.2.1
 K (v0, ((b0.1, (b0.2.1, (b0.2.2.1, ()))), ()))
def Q0W (k : Nat) (b0 : Qh7) : Option Q0W.τ := Q0W.c k b0 some
def Q0W.T : Q1T := ⟨[.ptr 0 []], [.dat Qh4], 1⟩
def Q0W.os : List Out := [⟨.ret, [.freeze (.slot 0), .auto 1], ⟨[.dat (.int .i64)], [.dat Qh4]⟩⟩]
def Q0W.sem (k : Nat) : QP := Q24 Q0W.T Q0W.os fun x => Q0W k x.1
noncomputable def Q0W.ctx (k : Nat) : Ctx := ⟨Tryz.prog, gam []⟩
theorem Q0W.gok (k : Nat) : ∀ f, QF Tryz.prog f ((Q0W.ctx k).Γ f) := QX
def Q0W.ann (k : Nat) : Ann := .nil
theorem Q0W.body (k : Nat) : Q23 (Q0W.ctx k) Tryz.f49 (Func.code Tryz.f49) (Q0W.ann k) Q0W.T Q0W.os (fun x K => Q0W.c k x.1 K) := by
 intro ρ x K; kernel_rfl
theorem Q0W.sem_ok (k : Nat) : QF Tryz.prog 49 (Q0W.sem k) :=
 Q1x (C := Q0W.ctx k) (Q0W.gok k) Tryz.mix (c := Func.code Tryz.f49) (ann := Q0W.ann k) (T := Q0W.T) (os := Q0W.os) (fun x K => Q0W.c k x.1 K) Tryz.func49 (by kernel_rfl) (by kernel_rfl) Q1.nil (Q0W.body k) (by kernel_rfl) (by kernel_rfl) (by kernel_rfl)
abbrev Q07.l0.σ : Type := ByteArray × Int × Int × Int × Qh2 × Qh2 × QgW × Unit
abbrev Q07.l0.τ : Type := Qh0 ⊕ (ByteArray × Int × Qh2 × Qh2 × QgW × Unit)
def Q07.l0.r (k : Nat) {ρ : Type} (x : Q07.l0.σ) (kn : Q07.l0.σ → Option ρ) (ke : Q07.l0.τ → Option ρ) : Option ρ :=
 bif (decide (x.2.2.2.1 < x.2.2.1)) then ((Qy k x.1 x.2.1).bind fun t9 => let v10 : Int := t9.2.1
 let v11 : Int := t9.2.2.1
 bif (v11 != (0 : Int)) then (ke (.inl (x.2.1, (v11, ((((0 : Int), ((List.replicate 32 (0 : Int)), ((List.replicate 32 (0 : Int)), ((0 : Int), ((0 : Int), ((0 : Int), ())))))), ((), ())), ()))))) else (bif (Nat.ble (((List.length x.2.2.2.2.2.2.1) + (List.length (List.set (List.replicate 1 ((0 : Int), ([], ([], ((0 : Int), ()))))) 0 (t9.1.1, (t9.1.2.1, (t9.1.2.2.1, (t9.1.2.2.2.1, ()))))))) * 64) 140737488355328) then (let v12 : Int := (IntKind.wrap IntKind.u64 (x.2.2.2.1 + (1 : Int)))
 kn (x.1, (v10, (x.2.2.1, (v12, (((x.2.2.2.2.1.1.1, (x.2.2.2.2.1.1.2.1, (x.2.2.2.2.1.1.2.2.1, (x.2.2.2.2.1.1.2.2.2.1, (x.2.2.2.2.1.1.2.2.2.2.1, (x.2.2.2.2.1.1.2.2.2.2.2.1, ())))))), ((), ())), (((x.2.2.2.2.2.1.1.1, (x.2.2.2.2.2.1.1.2.1, (x.2.2.2.2.2.1.1.2.2.1, (x.2.2.2.2.2.1.1.2.2.2.1, (x.2.2.2.2.2.1.1.2.2.2.2.1, (x.2.2.2.2.2.1.1.2.2.2.2.2.1, ())))))), ((), ())), ((x.2.2.2.2.2.2.1 ++ (List.set (List.replicate 1 ((0 : Int), ([], ([], ((0 : Int), ()))))) 0 (t9.1.1, (t9.1.2.1, (t9.1.2.2.1, (t9.1.2.2.2.1, ())))))), ())))))))) else (none))) else (ke (.inr (x.1, (x.2.1, (((x.2.2.2.2.1.1.1, (x.2.2.2.2.1.1.2.1, (x.2.2.2.2.1.1.2.2.1, (x.2.2.2.2.1.1.2.2.2.1, (x.2.2.2.2.1.1.2.2.2.2.1, (x.2.2.2.2.1.1.2.2.2.2.2.1, ())))))), ((), ())), (((x.2.2.2.2.2.1.1.1, (x.2.2.2.2.2.1.1.2.1, (x.2.2.2.2.2.1.1.2.2.1, (x.2.2.2.2.2.1.1.2.2.2.1, (x.2.2.2.2.2.1.1.2.2.2.2.1, (x.2.2.2.2.2.1.1.2.2.2.2.2.1, ())))))), ((), ())), (x.2.2.2.2.2.2.1, ())))))))
def Q07.l0 (k : Nat) : Nat → Q07.l0.σ → Option Q07.l0.τ := Q14 (Q07.l0.r k)
def Q07.l0.T : StT := ⟨.dat .str :: us 1 ++ .ptr 0 [] :: us 6 ++ .dat (.int .i64) :: .ptr 1 [] :: us 33 ++ .dat (.int .u64) :: .dat (.int .u64) :: us 28, [.pair (.dat QgV) (.pair (.nils) (.dat .unit)), .pair (.dat QgV) (.pair (.vsl 2) (.dat .unit)), .vec QgS]⟩
def Q07.l0.os : List Out := [⟨.ret, [.mask [2, 3, 4], .auto 0], ⟨us 2 ++ .ptr 0 [] :: .dat (.int .i64) :: .dat (.int .i64) :: us 69, [.pair (.dat QgV) (.pair (.nils) (.dat .unit))]⟩⟩, ⟨(.exit 0), [.mask [0, 2, 9, 10], .auto 0], ⟨.dat .str :: us 1 ++ .ptr 0 [] :: us 6 ++ .dat (.int .i64) :: .ptr 1 [] :: us 63, [.pair (.dat QgV) (.pair (.nils) (.dat .unit)), .pair (.dat QgV) (.pair (.vsl 2) (.dat .unit)), .vec QgS]⟩⟩]
def Q07.c (k : Nat) {ρ : Type} (s : ByteArray) (K : QgR × Int × Int × Unit → Option ρ) : Option ρ :=
 bif (decide ((((ByteArray.size s) : Nat) : Int) > (8192 : Int))) then (K ((((0 : Int), ((List.replicate 32 (0 : Int)), ((List.replicate 32 (0 : Int)), ((0 : Int), ((0 : Int), ((0 : Int), ())))))), ([], ())), ((0 : Int), ((110 : Int), ())))) else ((QH k s (0 : Int)).bind fun t0 => let v1 : Int := t0.2.1
 bif (v1 != (0 : Int)) then (K ((((0 : Int), ((List.replicate 32 (0 : Int)), ((List.replicate 32 (0 : Int)), ((0 : Int), ((0 : Int), ((0 : Int), ())))))), ([], ())), ((0 : Int), (v1, ())))) else (bif (decide (((0 : Int) ≤ (80 : Int)) ∧ (((80 : Int) ≤ (((ByteArray.size s) : Nat) : Int)) ∧ ((((ByteArray.size s) : Nat) : Int) ≤ (((ByteArray.size s) : Nat) : Int))))) then (let v2 : ByteArray := (ByteArray.extract s 80 (Int.toNat (((ByteArray.size s) : Nat) : Int)))
 (Q0E k v2).bind fun t3 => (Qz k (8192 : Int) (t3.1.1, (t3.1.2.1, (t3.1.2.2.1, ())))).bind fun t4 => (Q0W k (t4.2.1.1, (t4.2.1.2.1, (t4.2.1.2.2.1, ())))).bind fun t5 => let v6 : Int := (IntKind.wrap IntKind.i64 ((80 : Int) + t5.1))
 (Q0k k (t5.2.1.1, (t5.2.1.2.1, (t5.2.1.2.2.1, ())))).bind fun t7 => bif (t7.1 != (0 : Int)) then ((Q0k k (t7.2.1.1, (t7.2.1.2.1, (t7.2.1.2.2.1, ())))).bind fun t8 => K ((((0 : Int), ((List.replicate 32 (0 : Int)), ((List.replicate 32 (0 : Int)), ((0 : Int), ((0 : Int), ((0 : Int), ())))))), ([], ())), (v6, (t8.1, ())))) else ((Q07.l0 k k (s, (v6, (t4.1, ((0 : Int), ((((0 : Int), ((List.replicate 32 (0 : Int)), ((List.replicate 32 (0 : Int)), ((0 : Int), ((0 : Int), ((0 : Int), ())))))), ((), ())), (((t0.1.1, (t0.1.2.1, (t0.1.2.2.1, (t0.1.2.2.2.1, (t0.1.2.2.2.2.1, (t0.1.2.2.2.2.2.1, ())))))), ((), ())), ([], ())))))))).bind fun t13 => (match t13 with | .inl t14 => (K (((t14.2.2.1.1.1, (t14.2.2.1.1.2.1, (t14.2.2.1.1.2.2.1, (t14.2.2.1.1.2.2.2.1, (t14.2.2.1.1.2.2.2.2.1, (t14.2.2.1.1.2.2.2.2.2.1, ())))))), ([], ())), (t14.1, (t14.2.1, ())))) | .inr (t15) => (let v16 : Int := (((ByteArray.size t15.1) : Nat) : Int)
 bif (decide (t15.2.1 < v16)) then (K ((((0 : Int), ((List.replicate 32 (0 : Int)), ((List.replicate 32 (0 : Int)), ((0 : Int), ((0 : Int), ((0 : Int), ())))))), ([], ())), (t15.2.1, ((5 : Int), ())))) else (K (((t15.2.2.2.1.1.1, (t15.2.2.2.1.1.2.1, (t15.2.2.2.1.1.2.2.1, (t15.2.2.2.1.1.2.2.2.1, (t15.2.2.2.1.1.2.2.2.2.1, (t15.2.2.2.1.1.2.2.2.2.2.1, ())))))), (t15.2.2.2.2.1, ())), ((0 : Int), ((0 : Int), ())))))))) else (none)))
def Q07 (k : Nat) (s : ByteArray) : Option (QgR × Int × Int × Unit) := Q07.c k s some
def Q07.tin : List Ty := [.str]
def Q07.tout : List Ty := [QgP, (.int .i64), (.int .i64)]
def Q07.sem (k : Nat) : QP := QW Q07.tin Q07.tout fun x => Q07 k x.1
noncomputable def Q07.ctx (k : Nat) : Ctx := ⟨Tryz.prog, gam [(6, (QH.sem k)), (27, (Q0E.sem k)), (48, (Qz.sem k)), (49, (Q0W.sem k)), (30, (Q0k.sem k)), (50, (Qy.sem k))]⟩
theorem Q07.gok (k : Nat) : ∀ f, QF Tryz.prog f ((Q07.ctx k).Γ f) := (Qk (QH.sem_ok k) (Qk (Q0E.sem_ok k) (Qk (Qz.sem_ok k) (Qk (Q0W.sem_ok k) (Qk (Q0k.sem_ok k) (Qk (Qy.sem_ok k) QX))))))
theorem Q07.l0.round (k : Nat) : Q10 (Q07.ctx k) (QM (Func.code Tryz.f19) [1, 1, 1, 1, 1, 1, 1, 1, 1, 0, 1, 0, 0]) (.nil) Q07.l0.T [.mask [0, 2, 9, 10, 44, 45], .auto 0] Q07.l0.os (Q07.l0.r k) := by
 intro ρ x kn ke; kernel_rfl
theorem Q07.l0.ok (k : Nat) : StOK 0 Tryz.prog (.loop (QM (Func.code Tryz.f19) [1, 1, 1, 1, 1, 1, 1, 1, 1, 0, 1, 0, 0])) (Qn Q07.l0.T Q07.l0.os (Q07.l0 k k)) :=
 Q11 (C := Q07.ctx k) (Q07.gok k) Tryz.mix Q1.nil (by kernel_rfl) (by kernel_rfl) (by kernel_rfl) (Q07.l0.round k) k
def Q07.ann (k : Nat) : Ann := .node [] none (.nil) (.node [] none (.nil) (.node [] none (.nil) (.node [] none (.nil) (.node [] none (.nil) (.node [] none (.nil) (.node [] none (.nil) (.node [] none (.nil) (.node [] none (.nil) (.node [] none (.node [] none (.nil) (.node [] none (.node [.mask [0, 2, 9, 10, 44, 45], .auto 0, .own (.blk 1 [1]) QgS] (some (Qn Q07.l0.T Q07.l0.os (Q07.l0 k k))) .nil .nil) (.nil))) (.nil))))))))))
theorem Q07.body (k : Nat) : Q0R (Q07.ctx k) Tryz.f19 (Func.code Tryz.f19) (Q07.ann k) Q07.tin Q07.tout (fun x K => Q07.c k x.1 K) := by
 intro ρ x K; kernel_rfl
theorem Q07.sem_ok (k : Nat) : QF Tryz.prog 19 (Q07.sem k) :=
 QD (C := Q07.ctx k) (Q07.gok k) Tryz.mix (c := Func.code Tryz.f19) (ann := Q07.ann k) (tin := Q07.tin) (tout := Q07.tout) (fun x K => Q07.c k x.1 K) Tryz.func19 (by kernel_rfl) (by kernel_rfl) (Q1.seq Q1.nil (Q1.seq Q1.nil (Q1.seq Q1.nil (Q1.seq Q1.nil (Q1.seq Q1.nil (Q1.seq Q1.nil (Q1.seq Q1.nil (Q1.seq Q1.nil (Q1.seq Q1.nil (Q1.seq (Q1.seq Q1.nil (Q1.block (Q1.loop (by kernel_rfl) (Q07.l0.ok k)))) Q1.nil)))))))))) (Q07.body k)
abbrev Q3.p0.σ : Type := ByteArray × Int × Unit
abbrev Q3.p0.τ : Type := (Int × Int × Int × Unit) ⊕ (ByteArray × Int × Unit)
def Q3.p0.r (k : Nat) {ρ : Type} (x : Q3.p0.σ) (K : Q3.p0.τ → Option ρ) : Option ρ :=
 bif (decide (x.2.1 < (0 : Int))) then (K (.inl ((0 : Int), ((0 : Int), ((1 : Int), ()))))) else (let v0 : Int := (((ByteArray.size x.1) : Nat) : Int)
 bif (decide (x.2.1 > v0)) then (K (.inl ((0 : Int), ((0 : Int), ((1 : Int), ()))))) else (K (.inr (x.1, (x.2.1, ())))))
def Q3.p0 (k : Nat) (x : Q3.p0.σ) : Option Q3.p0.τ := Q3.p0.r k x some
def Q3.p0.T : StT := ⟨.dat .str :: .dat (.int .i64) :: us 61, []⟩
def Q3.p0.os : List Out := [⟨.ret, [.mask [4, 5, 6], .auto 0], ⟨us 4 ++ .dat (.int .u64) :: .dat (.int .i64) :: .dat (.int .i64) :: us 56, []⟩⟩, ⟨.normal, [.mask [0, 1], .auto 0], ⟨.dat .str :: .dat (.int .i64) :: us 61, []⟩⟩]
abbrev Q3.p1.σ : Type := ByteArray × Int × Int × Unit
abbrev Q3.p1.τ : Type := (ByteArray × Int × Int × Unit)
def Q3.p1.r (k : Nat) {ρ : Type} (x : Q3.p1.σ) (K : Q3.p1.τ → Option ρ) : Option ρ :=
 bif (decide (((0 : Int) ≤ x.2.1) ∧ (x.2.1 < (((ByteArray.size x.1) : Nat) : Int)))) then (let v5 : Int := (Q1u x.1 (Int.toNat x.2.1))
 bif (v5 == (253 : Int)) then (K (x.1, (x.2.1, ((2 : Int), ())))) else (bif (v5 == (254 : Int)) then (K (x.1, (x.2.1, ((4 : Int), ())))) else (bif (v5 == (255 : Int)) then (K (x.1, (x.2.1, ((8 : Int), ())))) else (K (x.1, (x.2.1, (x.2.2.1, ()))))))) else (none)
def Q3.p1 (k : Nat) (x : Q3.p1.σ) : Option Q3.p1.τ := Q3.p1.r k x some
def Q3.p1.T : StT := ⟨.dat .str :: .dat (.int .i64) :: us 5 ++ .dat (.int .i64) :: us 55, []⟩
def Q3.p1.os : List Out := [⟨.normal, [.mask [0, 1, 7], .auto 0], ⟨.dat .str :: .dat (.int .i64) :: us 5 ++ .dat (.int .i64) :: us 55, []⟩⟩]
abbrev Q3.p2.σ : Type := ByteArray × Int × Int × Int × Unit
abbrev Q3.p2.τ : Type := (Int × Int × Int × Unit)
def Q3.p2.r (k : Nat) {ρ : Type} (x : Q3.p2.σ) (K : Q3.p2.τ → Option ρ) : Option ρ :=
 bif (decide (x.2.2.1 > (0 : Int))) then (let v11 : Int := (IntKind.wrap IntKind.i64 (x.2.1 + (1 : Int)))
 let v12 : Int := (IntKind.wrap IntKind.i64 (x.2.1 + (1 : Int)))
 let v13 : Int := (IntKind.wrap IntKind.i64 (v12 + x.2.2.1))
 bif (decide (((0 : Int) ≤ v11) ∧ ((v11 ≤ v13) ∧ (v13 ≤ (((ByteArray.size x.1) : Nat) : Int))))) then (let v14 : ByteArray := (ByteArray.extract x.1 (Int.toNat v11) (Int.toNat v13))
 (Qs k v14).bind fun t15 => K (x.2.1, (x.2.2.1, (t15.1, ())))) else (none)) else (K (x.2.1, (x.2.2.1, (x.2.2.2.1, ()))))
def Q3.p2 (k : Nat) (x : Q3.p2.σ) : Option Q3.p2.τ := Q3.p2.r k x some
def Q3.p2.T : StT := ⟨.dat .str :: .dat (.int .i64) :: us 5 ++ .dat (.int .i64) :: .dat (.int .u64) :: us 54, []⟩
def Q3.p2.os : List Out := [⟨.normal, [.mask [1, 7, 8], .auto 0], ⟨us 1 ++ .dat (.int .i64) :: us 5 ++ .dat (.int .i64) :: .dat (.int .u64) :: us 54, []⟩⟩]
def Q3.c (k : Nat) {ρ : Type} (s : ByteArray) (at_1 : Int) (K : Int × Int × Int × Unit → Option ρ) : Option ρ :=
 (Q3.p0 k (s, (at_1, ()))).bind fun t1 => (match t1 with | .inl t2 => (K (t2.1, (t2.2.1, (t2.2.2.1, ())))) | .inr (t3) => (let v4 : Int := (((ByteArray.size t3.1) : Nat) : Int)
 bif (t3.2.1 == v4) then (K ((0 : Int), ((0 : Int), ((4 : Int), ())))) else ((Q3.p1 k (t3.1, (t3.2.1, ((0 : Int), ())))).bind fun t6 => let v7 : Int := (((ByteArray.size t6.1) : Nat) : Int)
 let v8 : Int := (IntKind.wrap IntKind.i64 (v7 - t6.2.1))
 let v9 : Int := (IntKind.wrap IntKind.i64 (v8 - (1 : Int)))
 bif (decide (v9 < t6.2.2.1)) then (K ((0 : Int), ((0 : Int), ((4 : Int), ())))) else (bif (decide (((0 : Int) ≤ t6.2.1) ∧ (t6.2.1 < (((ByteArray.size t6.1) : Nat) : Int)))) then (let v10 : Int := (Q1u t6.1 (Int.toNat t6.2.1))
 (Q3.p2 k (t6.1, (t6.2.1, (t6.2.2.1, ((IntKind.wrap IntKind.u64 v10), ()))))).bind fun t16 => (Q0l k t16.2.2.1).bind fun t17 => let v18 : Int := (((ByteArray.size t17.1) : Nat) : Int)
 let v19 : Int := (IntKind.wrap IntKind.i64 ((1 : Int) + t16.2.1))
 bif (v18 != v19) then (K ((0 : Int), ((0 : Int), ((6 : Int), ())))) else (let v20 : Int := (IntKind.wrap IntKind.i64 (t16.1 + (1 : Int)))
 let v21 : Int := (IntKind.wrap IntKind.i64 (v20 + t16.2.1))
 K (t16.2.2.1, (v21, ((0 : Int), ()))))) else (none)))))
def Q3 (k : Nat) (s : ByteArray) (at_1 : Int) : Option (Int × Int × Int × Unit) := Q3.c k s at_1 some
def Q3.tin : List Ty := [.str, (.int .i64)]
def Q3.tout : List Ty := [(.int .u64), (.int .i64), (.int .i64)]
def Q3.sem (k : Nat) : QP := QW Q3.tin Q3.tout fun x => Q3 k x.1 x.2.1
noncomputable def Q3.ctx (k : Nat) : Ctx := ⟨Tryz.prog, gam [(31, (Qs.sem k)), (45, (Q0l.sem k))]⟩
theorem Q3.gok (k : Nat) : ∀ f, QF Tryz.prog f ((Q3.ctx k).Γ f) := (Qk (Qs.sem_ok k) (Qk (Q0l.sem_ok k) QX))
theorem Q3.p0.is (k : Nat) : Q1O (Q3.ctx k) (QM (Func.code Tryz.f51) [1, 0]) (.nil) Q3.p0.T Q3.p0.os (Q3.p0.r k) := by
 intro ρ x K; kernel_rfl
theorem Q3.p0.ok (k : Nat) : StOK 0 Tryz.prog (QM (Func.code Tryz.f51) [1, 0]) (Qn Q3.p0.T Q3.p0.os (Q3.p0 k)) :=
 Q1F (C := Q3.ctx k) (T := Q3.p0.T) (os := Q3.p0.os) (Q3.gok k) Tryz.mix (fun x K => Q3.p0.r k x K) Q1.nil (by kernel_rfl) (by kernel_rfl) (Q3.p0.is k)
theorem Q3.p1.is (k : Nat) : Q1O (Q3.ctx k) (QM (Func.code Tryz.f51) [1, 1, 1, 1, 0]) (.nil) Q3.p1.T Q3.p1.os (Q3.p1.r k) := by
 intro ρ x K; kernel_rfl
theorem Q3.p1.ok (k : Nat) : StOK 0 Tryz.prog (QM (Func.code Tryz.f51) [1, 1, 1, 1, 0]) (Qn Q3.p1.T Q3.p1.os (Q3.p1 k)) :=
 Q1F (C := Q3.ctx k) (T := Q3.p1.T) (os := Q3.p1.os) (Q3.gok k) Tryz.mix (fun x K => Q3.p1.r k x K) Q1.nil (by kernel_rfl) (by kernel_rfl) (Q3.p1.is k)
theorem Q3.p2.is (k : Nat) : Q1O (Q3.ctx k) (QM (Func.code Tryz.f51) [1, 1, 1, 1, 1, 1, 1, 0]) (.nil) Q3.p2.T Q3.p2.os (Q3.p2.r k) := by
 intro ρ x K; kernel_rfl
theorem Q3.p2.ok (k : Nat) : StOK 0 Tryz.prog (QM (Func.code Tryz.f51) [1, 1, 1, 1, 1, 1, 1, 0]) (Qn Q3.p2.T Q3.p2.os (Q3.p2 k)) :=
 Q1F (C := Q3.ctx k) (T := Q3.p2.T) (os := Q3.p2.os) (Q3.gok k) Tryz.mix (fun x K => Q3.p2.r k x K) Q1.nil (by kernel_rfl) (by kernel_rfl) (Q3.p2.is k)
def Q3.ann (k : Nat) : Ann := .node [] none (.nil) (.node [] none (.node [] (some (Qn Q3.p0.T Q3.p0.os (Q3.p0 k))) .nil .nil) (.node [] none (.nil) (.node [] none (.nil) (.node [] none (.node [] (some (Qn Q3.p1.T Q3.p1.os (Q3.p1 k))) .nil .nil) (.node [] none (.nil) (.node [] none (.nil) (.node [] none (.node [] (some (Qn Q3.p2.T Q3.p2.os (Q3.p2 k))) .nil .nil) (.nil))))))))
theorem Q3.body (k : Nat) : Q0R (Q3.ctx k) Tryz.f51 (Func.code Tryz.f51) (Q3.ann k) Q3.tin Q3.tout (fun x K => Q3.c k x.1 x.2.1 K) := by
 intro ρ x K; kernel_rfl
theorem Q3.sem_ok (k : Nat) : QF Tryz.prog 51 (Q3.sem k) :=
 QD (C := Q3.ctx k) (Q3.gok k) Tryz.mix (c := Func.code Tryz.f51) (ann := Q3.ann k) (tin := Q3.tin) (tout := Q3.tout) (fun x K => Q3.c k x.1 x.2.1 K) Tryz.func51 (by kernel_rfl) (by kernel_rfl) (Q1.seq Q1.nil (Q1.seq (Q1.loop (by kernel_rfl) (Q3.p0.ok k)) (Q1.seq Q1.nil (Q1.seq Q1.nil (Q1.seq (Q1.loop (by kernel_rfl) (Q3.p1.ok k)) (Q1.seq Q1.nil (Q1.seq Q1.nil (Q1.seq (Q1.loop (by kernel_rfl) (Q3.p2.ok k)) Q1.nil)))))))) (Q3.body k)
abbrev Qa.p0.σ : Type := ByteArray × Int × Int × Int × Qh2 × Qh2 × Unit
abbrev Qa.p0.τ : Type := (ByteArray × Int × Int × Int × Qh2 × Qh2 × Unit)
def Qa.p0.r (k : Nat) {ρ : Type} (x : Qa.p0.σ) (K : Qa.p0.τ → Option ρ) : Option ρ :=
 bif (x.2.1 == (0 : Int)) then (bif (decide (x.2.2.1 > (8192 : Int))) then (K (x.1, ((5 : Int), (x.2.2.1, (x.2.2.2.1, (((x.2.2.2.2.1.1.1, (x.2.2.2.2.1.1.2.1, (x.2.2.2.2.1.1.2.2.1, (x.2.2.2.2.1.1.2.2.2.1, (x.2.2.2.2.1.1.2.2.2.2.1, (x.2.2.2.2.1.1.2.2.2.2.2.1, ())))))), ((), ())), (((x.2.2.2.2.2.1.1.1, (x.2.2.2.2.2.1.1.2.1, (x.2.2.2.2.2.1.1.2.2.1, (x.2.2.2.2.2.1.1.2.2.2.1, (x.2.2.2.2.2.1.1.2.2.2.2.1, (x.2.2.2.2.2.1.1.2.2.2.2.2.1, ())))))), ((), ())), ()))))))) else (K (x.1, (x.2.1, (x.2.2.1, (x.2.2.2.1, (((x.2.2.2.2.1.1.1, (x.2.2.2.2.1.1.2.1, (x.2.2.2.2.1.1.2.2.1, (x.2.2.2.2.1.1.2.2.2.1, (x.2.2.2.2.1.1.2.2.2.2.1, (x.2.2.2.2.1.1.2.2.2.2.2.1, ())))))), ((), ())), (((x.2.2.2.2.2.1.1.1, (x.2.2.2.2.2.1.1.2.1, (x.2.2.2.2.2.1.1.2.2.1, (x.2.2.2.2.2.1.1.2.2.2.1, (x.2.2.2.2.2.1.1.2.2.2.2.1, (x.2.2.2.2.2.1.1.2.2.2.2.2.1, ())))))), ((), ())), ())))))))) else (K (x.1, (x.2.1, (x.2.2.1, (x.2.2.2.1, (((x.2.2.2.2.1.1.1, (x.2.2.2.2.1.1.2.1, (x.2.2.2.2.1.1.2.2.1, (x.2.2.2.2.1.1.2.2.2.1, (x.2.2.2.2.1.1.2.2.2.2.1, (x.2.2.2.2.1.1.2.2.2.2.2.1, ())))))), ((), ())), (((x.2.2.2.2.2.1.1.1, (x.2.2.2.2.2.1.1.2.1, (x.2.2.2.2.2.1.1.2.2.1, (x.2.2.2.2.2.1.1.2.2.2.1, (x.2.2.2.2.2.1.1.2.2.2.2.1, (x.2.2.2.2.2.1.1.2.2.2.2.2.1, ())))))), ((), ())), ())))))))
def Qa.p0 (k : Nat) (x : Qa.p0.σ) : Option Qa.p0.τ := Qa.p0.r k x some
def Qa.p0.T : StT := ⟨.dat .str :: us 1 ++ .ptr 0 [] :: us 3 ++ .dat (.int .i64) :: .ptr 1 [] :: .dat (.int .u64) :: .dat (.int .i64) :: us 66, [.pair (.dat QgV) (.pair (.nils) (.dat .unit)), .pair (.dat QgV) (.pair (.nils) (.dat .unit))]⟩
def Qa.p0.os : List Out := [⟨.normal, [.mask [0, 2, 6, 7, 8, 9], .auto 0], ⟨.dat .str :: us 1 ++ .ptr 0 [] :: us 3 ++ .dat (.int .i64) :: .ptr 1 [] :: .dat (.int .u64) :: .dat (.int .i64) :: us 66, [.pair (.dat QgV) (.pair (.nils) (.dat .unit)), .pair (.dat QgV) (.pair (.nils) (.dat .unit))]⟩⟩]
abbrev Qa.l1.σ : Type := ByteArray × Int × Int × Int × Qh2 × Qh2 × QgY × Unit
abbrev Qa.l1.τ : Type := Qh0 ⊕ (ByteArray × Int × Qh2 × Qh2 × QgY × Unit)
def Qa.l1.r (k : Nat) {ρ : Type} (x : Qa.l1.σ) (kn : Qa.l1.σ → Option ρ) (ke : Qa.l1.τ → Option ρ) : Option ρ :=
 bif (decide (x.2.2.2.1 < x.2.1)) then ((Q0 k x.1 x.2.2.1).bind fun t7 => let v8 : Int := t7.2.1
 let v9 : Int := t7.2.2.1
 bif (v9 != (0 : Int)) then (ke (.inl (x.2.2.1, (v9, ((((0 : Int), ((List.replicate 32 (0 : Int)), ((List.replicate 32 (0 : Int)), ((0 : Int), ((0 : Int), ((0 : Int), ())))))), ((), ())), ()))))) else (bif (Nat.ble (((List.length x.2.2.2.2.2.2.1) + (List.length (List.set (List.replicate 1 ((0 : Int), ([], ([], ((0 : Int), ()))))) 0 (t7.1.1, (t7.1.2.1, (t7.1.2.2.1, (t7.1.2.2.2.1, ()))))))) * 64) 140737488355328) then (let v10 : Int := (IntKind.wrap IntKind.u64 (x.2.2.2.1 + (1 : Int)))
 kn (x.1, (x.2.1, (v8, (v10, (((x.2.2.2.2.1.1.1, (x.2.2.2.2.1.1.2.1, (x.2.2.2.2.1.1.2.2.1, (x.2.2.2.2.1.1.2.2.2.1, (x.2.2.2.2.1.1.2.2.2.2.1, (x.2.2.2.2.1.1.2.2.2.2.2.1, ())))))), ((), ())), (((x.2.2.2.2.2.1.1.1, (x.2.2.2.2.2.1.1.2.1, (x.2.2.2.2.2.1.1.2.2.1, (x.2.2.2.2.2.1.1.2.2.2.1, (x.2.2.2.2.2.1.1.2.2.2.2.1, (x.2.2.2.2.2.1.1.2.2.2.2.2.1, ())))))), ((), ())), ((x.2.2.2.2.2.2.1 ++ (List.set (List.replicate 1 ((0 : Int), ([], ([], ((0 : Int), ()))))) 0 (t7.1.1, (t7.1.2.1, (t7.1.2.2.1, (t7.1.2.2.2.1, ())))))), ())))))))) else (none))) else (ke (.inr (x.1, (x.2.2.1, (((x.2.2.2.2.1.1.1, (x.2.2.2.2.1.1.2.1, (x.2.2.2.2.1.1.2.2.1, (x.2.2.2.2.1.1.2.2.2.1, (x.2.2.2.2.1.1.2.2.2.2.1, (x.2.2.2.2.1.1.2.2.2.2.2.1, ())))))), ((), ())), (((x.2.2.2.2.2.1.1.1, (x.2.2.2.2.2.1.1.2.1, (x.2.2.2.2.2.1.1.2.2.1, (x.2.2.2.2.2.1.1.2.2.2.1, (x.2.2.2.2.2.1.1.2.2.2.2.1, (x.2.2.2.2.2.1.1.2.2.2.2.2.1, ())))))), ((), ())), (x.2.2.2.2.2.2.1, ())))))))
def Qa.l1 (k : Nat) : Nat → Qa.l1.σ → Option Qa.l1.τ := Q14 (Qa.l1.r k)
def Qa.l1.T : StT := ⟨.dat .str :: us 1 ++ .ptr 0 [] :: us 4 ++ .ptr 1 [] :: .dat (.int .u64) :: .dat (.int .i64) :: .dat (.int .u64) :: us 65, [.pair (.dat QgV) (.pair (.nils) (.dat .unit)), .pair (.dat QgV) (.pair (.vsl 2) (.dat .unit)), .vec QgU]⟩
def Qa.l1.os : List Out := [⟨.ret, [.mask [2, 3, 4], .auto 0], ⟨us 2 ++ .ptr 0 [] :: .dat (.int .i64) :: .dat (.int .i64) :: us 71, [.pair (.dat QgV) (.pair (.nils) (.dat .unit))]⟩⟩, ⟨(.exit 0), [.mask [0, 2, 7, 9], .auto 0], ⟨.dat .str :: us 1 ++ .ptr 0 [] :: us 4 ++ .ptr 1 [] :: us 1 ++ .dat (.int .i64) :: us 66, [.pair (.dat QgV) (.pair (.nils) (.dat .unit)), .pair (.dat QgV) (.pair (.vsl 2) (.dat .unit)), .vec QgU]⟩⟩]
def Qa.c (k : Nat) {ρ : Type} (s : ByteArray) (K : QgT × Int × Int × Unit → Option ρ) : Option ρ :=
 bif (decide ((((ByteArray.size s) : Nat) : Int) > (8192 : Int))) then (K ((((0 : Int), ((List.replicate 32 (0 : Int)), ((List.replicate 32 (0 : Int)), ((0 : Int), ((0 : Int), ((0 : Int), ())))))), ([], ())), ((0 : Int), ((110 : Int), ())))) else ((Qg k s (0 : Int)).bind fun t0 => let v1 : Int := t0.2.1
 bif (v1 != (0 : Int)) then (K ((((0 : Int), ((List.replicate 32 (0 : Int)), ((List.replicate 32 (0 : Int)), ((0 : Int), ((0 : Int), ((0 : Int), ())))))), ([], ())), ((0 : Int), (v1, ())))) else ((Q3 k s (80 : Int)).bind fun t2 => let v3 : Int := t2.1
 let v4 : Int := t2.2.1
 let v5 : Int := t2.2.2.1
 (Qa.p0 k (s, (v5, (v3, (v4, ((((0 : Int), ((List.replicate 32 (0 : Int)), ((List.replicate 32 (0 : Int)), ((0 : Int), ((0 : Int), ((0 : Int), ())))))), ((), ())), (((t0.1.1, (t0.1.2.1, (t0.1.2.2.1, (t0.1.2.2.2.1, (t0.1.2.2.2.2.1, (t0.1.2.2.2.2.2.1, ())))))), ((), ())), ()))))))).bind fun t6 => bif (t6.2.1 != (0 : Int)) then (K ((((0 : Int), ((List.replicate 32 (0 : Int)), ((List.replicate 32 (0 : Int)), ((0 : Int), ((0 : Int), ((0 : Int), ())))))), ([], ())), ((80 : Int), (t6.2.1, ())))) else ((Qa.l1 k k (t6.1, (t6.2.2.1, (t6.2.2.2.1, ((0 : Int), (((t6.2.2.2.2.1.1.1, (t6.2.2.2.2.1.1.2.1, (t6.2.2.2.2.1.1.2.2.1, (t6.2.2.2.2.1.1.2.2.2.1, (t6.2.2.2.2.1.1.2.2.2.2.1, (t6.2.2.2.2.1.1.2.2.2.2.2.1, ())))))), ((), ())), (((t6.2.2.2.2.2.1.1.1, (t6.2.2.2.2.2.1.1.2.1, (t6.2.2.2.2.2.1.1.2.2.1, (t6.2.2.2.2.2.1.1.2.2.2.1, (t6.2.2.2.2.2.1.1.2.2.2.2.1, (t6.2.2.2.2.2.1.1.2.2.2.2.2.1, ())))))), ((), ())), ([], ())))))))).bind fun t11 => (match t11 with | .inl t12 => (K (((t12.2.2.1.1.1, (t12.2.2.1.1.2.1, (t12.2.2.1.1.2.2.1, (t12.2.2.1.1.2.2.2.1, (t12.2.2.1.1.2.2.2.2.1, (t12.2.2.1.1.2.2.2.2.2.1, ())))))), ([], ())), (t12.1, (t12.2.1, ())))) | .inr (t13) => (let v14 : Int := (((ByteArray.size t13.1) : Nat) : Int)
 bif (decide (t13.2.1 < v14)) then (K ((((0 : Int), ((List.replicate 32 (0 : Int)), ((List.replicate 32 (0 : Int)), ((0 : Int), ((0 : Int), ((0 : Int), ())))))), ([], ())), (t13.2.1, ((5 : Int), ())))) else (K (((t13.2.2.2.1.1.1, (t13.2.2.2.1.1.2.1, (t13.2.2.2.1.1.2.2.1, (t13.2.2.2.1.1.2.2.2.1, (t13.2.2.2.1.1.2.2.2.2.1, (t13.2.2.2.1.1.2.2.2.2.2.1, ())))))), (t13.2.2.2.2.1, ())), ((0 : Int), ((0 : Int), ())))))))))
def Qa (k : Nat) (s : ByteArray) : Option (QgT × Int × Int × Unit) := Qa.c k s some
def Qa.tin : List Ty := [.str]
def Qa.tout : List Ty := [QgQ, (.int .i64), (.int .i64)]
def Qa.sem (k : Nat) : QP := QW Qa.tin Qa.tout fun x => Qa k x.1
noncomputable def Qa.ctx (k : Nat) : Ctx := ⟨Tryz.prog, gam [(7, (Qg.sem k)), (51, (Q3.sem k)), (52, (Q0.sem k))]⟩
theorem Qa.gok (k : Nat) : ∀ f, QF Tryz.prog f ((Qa.ctx k).Γ f) := (Qk (Qg.sem_ok k) (Qk (Q3.sem_ok k) (Qk (Q0.sem_ok k) QX)))
theorem Qa.p0.is (k : Nat) : Q1O (Qa.ctx k) (QM (Func.code Tryz.f20) [1, 1, 1, 1, 1, 1, 0]) (.nil) Qa.p0.T Qa.p0.os (Qa.p0.r k) := by
 intro ρ x K; kernel_rfl
theorem Qa.p0.ok (k : Nat) : StOK 0 Tryz.prog (QM (Func.code Tryz.f20) [1, 1, 1, 1, 1, 1, 0]) (Qn Qa.p0.T Qa.p0.os (Qa.p0 k)) :=
 Q1F (C := Qa.ctx k) (T := Qa.p0.T) (os := Qa.p0.os) (Qa.gok k) Tryz.mix (fun x K => Qa.p0.r k x K) Q1.nil (by kernel_rfl) (by kernel_rfl) (Qa.p0.is k)
theorem Qa.l1.round (k : Nat) : Q10 (Qa.ctx k) (QM (Func.code Tryz.f20) [1, 1, 1, 1, 1, 1, 1, 1, 0, 1, 0, 0]) (.nil) Qa.l1.T [.mask [0, 2, 7, 8, 9, 10], .auto 0] Qa.l1.os (Qa.l1.r k) := by
 intro ρ x kn ke; kernel_rfl
theorem Qa.l1.ok (k : Nat) : StOK 0 Tryz.prog (.loop (QM (Func.code Tryz.f20) [1, 1, 1, 1, 1, 1, 1, 1, 0, 1, 0, 0])) (Qn Qa.l1.T Qa.l1.os (Qa.l1 k k)) :=
 Q11 (C := Qa.ctx k) (Qa.gok k) Tryz.mix Q1.nil (by kernel_rfl) (by kernel_rfl) (by kernel_rfl) (Qa.l1.round k) k
def Qa.ann (k : Nat) : Ann := .node [] none (.nil) (.node [] none (.nil) (.node [] none (.nil) (.node [] none (.nil) (.node [] none (.nil) (.node [] none (.nil) (.node [] none (.node [.mask [0, 2, 6, 7, 8, 9], .auto 0] (some (Qn Qa.p0.T Qa.p0.os (Qa.p0 k))) .nil .nil) (.node [] none (.nil) (.node [] none (.node [] none (.nil) (.node [] none (.node [.mask [0, 2, 7, 8, 9, 10], .auto 0, .own (.blk 1 [1]) QgU] (some (Qn Qa.l1.T Qa.l1.os (Qa.l1 k k))) .nil .nil) (.nil))) (.nil)))))))))
theorem Qa.body (k : Nat) : Q0R (Qa.ctx k) Tryz.f20 (Func.code Tryz.f20) (Qa.ann k) Qa.tin Qa.tout (fun x K => Qa.c k x.1 K) := by
 intro ρ x K; kernel_rfl
theorem Qa.sem_ok (k : Nat) : QF Tryz.prog 20 (Qa.sem k) :=
 QD (C := Qa.ctx k) (Qa.gok k) Tryz.mix (c := Func.code Tryz.f20) (ann := Qa.ann k) (tin := Qa.tin) (tout := Qa.tout) (fun x K => Qa.c k x.1 K) Tryz.func20 (by kernel_rfl) (by kernel_rfl) (Q1.seq Q1.nil (Q1.seq Q1.nil (Q1.seq Q1.nil (Q1.seq Q1.nil (Q1.seq Q1.nil (Q1.seq Q1.nil (Q1.seq (Q1.loop (by kernel_rfl) (Qa.p0.ok k)) (Q1.seq Q1.nil (Q1.seq (Q1.seq Q1.nil (Q1.block (Q1.loop (by kernel_rfl) (Qa.l1.ok k)))) Q1.nil))))))))) (Qa.body k)
abbrev Q0G.l0.σ : Type := Int × QgW × Int × Int × Unit
abbrev Q0G.l0.τ : Type := (Int × Unit)
def Q0G.l0.r (k : Nat) {ρ : Type} (x : Q0G.l0.σ) (kn : Q0G.l0.σ → Option ρ) (ke : Q0G.l0.τ → Option ρ) : Option ρ :=
 bif (decide (x.2.2.2.1 < x.2.2.1)) then (bif (decide (((0 : Int) ≤ x.2.2.2.1) ∧ (x.2.2.2.1 < (((List.length x.2.1) : Nat) : Int)))) then ((Q0t k ((List.getD x.2.1 (Int.toNat x.2.2.2.1) ((0 : Int), ([], ([], ((0 : Int), ()))))).1, ((List.getD x.2.1 (Int.toNat x.2.2.2.1) ((0 : Int), ([], ([], ((0 : Int), ()))))).2.1, ((List.getD x.2.1 (Int.toNat x.2.2.2.1) ((0 : Int), ([], ([], ((0 : Int), ()))))).2.2.1, ((List.getD x.2.1 (Int.toNat x.2.2.2.1) ((0 : Int), ([], ([], ((0 : Int), ()))))).2.2.2.1, ()))))).bind fun t6 => let v7 : Int := (IntKind.wrap IntKind.i64 (x.1 + t6.1))
 let v8 : Int := (IntKind.wrap IntKind.i64 (x.2.2.2.1 + (1 : Int)))
 kn (v7, (x.2.1, (x.2.2.1, (v8, ()))))) else (none)) else (ke (x.1, ()))
def Q0G.l0 (k : Nat) : Nat → Q0G.l0.σ → Option Q0G.l0.τ := Q14 (Q0G.l0.r k)
def Q0G.l0.T : StT := ⟨us 3 ++ .dat (.int .i64) :: us 9 ++ .dat (.sl QgS) :: .dat (.int .i64) :: .dat (.int .i64) :: us 9, []⟩
def Q0G.l0.os : List Out := [⟨(.exit 0), [.mask [3], .auto 0], ⟨us 3 ++ .dat (.int .i64) :: us 21, []⟩⟩]
def Q0G.c (k : Nat) {ρ : Type} (b : QgR) (K : Int × Unit → Option ρ) : Option ρ :=
 let v0 : QgW := b.2.1
 let v1 : Int := (((List.length v0) : Nat) : Int)
 (Q0w k (IntKind.wrap IntKind.u64 v1)).bind fun t2 => let v3 : Int := (IntKind.wrap IntKind.i64 ((80 : Int) + t2.1))
 let v4 : QgW := b.2.1
 let v5 : Int := (((List.length v4) : Nat) : Int)
 (Q0G.l0 k k (v3, (v4, (v5, ((0 : Int), ()))))).bind fun t9 => K (t9.1, ())
def Q0G (k : Nat) (b : QgR) : Option (Int × Unit) := Q0G.c k b some
def Q0G.tin : List Ty := [QgP]
def Q0G.tout : List Ty := [(.int .i64)]
def Q0G.sem (k : Nat) : QP := QW Q0G.tin Q0G.tout fun x => Q0G k x.1
noncomputable def Q0G.ctx (k : Nat) : Ctx := ⟨Tryz.prog, gam [(53, (Q0w.sem k)), (54, (Q0t.sem k))]⟩
theorem Q0G.gok (k : Nat) : ∀ f, QF Tryz.prog f ((Q0G.ctx k).Γ f) := (Qk (Q0w.sem_ok k) (Qk (Q0t.sem_ok k) QX))
theorem Q0G.l0.round (k : Nat) : Q10 (Q0G.ctx k) (QM (Func.code Tryz.f21) [1, 1, 0, 1, 0, 0]) (.nil) Q0G.l0.T [.mask [3, 13, 14, 15], .auto 0] Q0G.l0.os (Q0G.l0.r k) := by
 intro ρ x kn ke; kernel_rfl
theorem Q0G.l0.ok (k : Nat) : StOK 0 Tryz.prog (.loop (QM (Func.code Tryz.f21) [1, 1, 0, 1, 0, 0])) (Qn Q0G.l0.T Q0G.l0.os (Q0G.l0 k k)) :=
 Q11 (C := Q0G.ctx k) (Q0G.gok k) Tryz.mix Q1.nil (by kernel_rfl) (by kernel_rfl) (by kernel_rfl) (Q0G.l0.round k) k
def Q0G.ann (k : Nat) : Ann := .node [] none (.nil) (.node [] none (.nil) (.node [] none (.node [] none (.nil) (.node [] none (.node [.mask [3, 13, 14, 15], .auto 0] (some (Qn Q0G.l0.T Q0G.l0.os (Q0G.l0 k k))) .nil .nil) (.nil))) (.nil)))
theorem Q0G.body (k : Nat) : Q0R (Q0G.ctx k) Tryz.f21 (Func.code Tryz.f21) (Q0G.ann k) Q0G.tin Q0G.tout (fun x K => Q0G.c k x.1 K) := by
 intro ρ x K; kernel_rfl
theorem Q0G.sem_ok (k : Nat) : QF Tryz.prog 21 (Q0G.sem k) :=
 QD (C := Q0G.ctx k) (Q0G.gok k) Tryz.mix (c := Func.code Tryz.f21) (ann := Q0G.ann k) (tin := Q0G.tin) (tout := Q0G.tout) (fun x K => Q0G.c k x.1 K) Tryz.func21 (by kernel_rfl) (by kernel_rfl) (Q1.seq Q1.nil (Q1.seq Q1.nil (Q1.seq (Q1.seq Q1.nil (Q1.block (Q1.loop (by kernel_rfl) (Q0G.l0.ok k)))) Q1.nil))) (Q0G.body k)
abbrev QO.p0.σ : Type := QgR × QgR × Unit
abbrev QO.p0.τ : Type := (Bool × Unit) ⊕ (QgR × QgR × Unit)
def QO.p0.r (k : Nat) {ρ : Type} (x : QO.p0.σ) (K : QO.p0.τ → Option ρ) : Option ρ :=
 bif (!((x.1.1.1 == x.2.1.1.1) && ((decide (x.1.1.2.1 = x.2.1.1.2.1)) && ((decide (x.1.1.2.2.1 = x.2.1.1.2.2.1)) && ((x.1.1.2.2.2.1 == x.2.1.1.2.2.2.1) && ((x.1.1.2.2.2.2.1 == x.2.1.1.2.2.2.2.1) && ((x.1.1.2.2.2.2.2.1 == x.2.1.1.2.2.2.2.2.1) && true))))))) then (K (.inl (false, ()))) else (let v0 : QgW := x.1.2.1
 let v1 : Int := (((List.length v0) : Nat) : Int)
 let v2 : QgW := x.2.1.2.1
 let v3 : Int := (((List.length v2) : Nat) : Int)
 bif (v1 != v3) then (K (.inl (false, ()))) else (K (.inr (((x.1.1.1, (x.1.1.2.1, (x.1.1.2.2.1, (x.1.1.2.2.2.1, (x.1.1.2.2.2.2.1, (x.1.1.2.2.2.2.2.1, ())))))), (x.1.2.1, ())), (((x.2.1.1.1, (x.2.1.1.2.1, (x.2.1.1.2.2.1, (x.2.1.1.2.2.2.1, (x.2.1.1.2.2.2.2.1, (x.2.1.1.2.2.2.2.2.1, ())))))), (x.2.1.2.1, ())), ())))))
def QO.p0 (k : Nat) (x : QO.p0.σ) : Option QO.p0.τ := QO.p0.r k x some
def QO.p0.T : StT := ⟨us 2 ++ .ptr 0 [] :: .ptr 1 [] :: us 35, [.dat QgP, .dat QgP]⟩
def QO.p0.os : List Out := [⟨.ret, [.mask [4], .auto 0], ⟨us 4 ++ .dat .bool :: us 34, []⟩⟩, ⟨.normal, [.mask [2, 3], .auto 0], ⟨us 2 ++ .ptr 0 [] :: .ptr 1 [] :: us 35, [.dat QgP, .dat QgP]⟩⟩]
abbrev QO.l1.σ : Type := Int × Int × QgR × QgR × Unit
abbrev QO.l1.τ : Type := (Bool × Unit) ⊕ (Unit)
def QO.l1.r (k : Nat) {ρ : Type} (x : QO.l1.σ) (kn : QO.l1.σ → Option ρ) (ke : QO.l1.τ → Option ρ) : Option ρ :=
 bif (decide (x.2.1 < x.1)) then (let v9 : QgW := x.2.2.1.2.1
 bif (decide (((0 : Int) ≤ x.2.1) ∧ (x.2.1 < (((List.length v9) : Nat) : Int)))) then (let v10 : QgW := x.2.2.2.1.2.1
 bif (decide (((0 : Int) ≤ x.2.1) ∧ (x.2.1 < (((List.length v10) : Nat) : Int)))) then ((Q1D k ((List.getD v9 (Int.toNat x.2.1) ((0 : Int), ([], ([], ((0 : Int), ()))))).1, ((List.getD v9 (Int.toNat x.2.1) ((0 : Int), ([], ([], ((0 : Int), ()))))).2.1, ((List.getD v9 (Int.toNat x.2.1) ((0 : Int), ([], ([], ((0 : Int), ()))))).2.2.1, ((List.getD v9 (Int.toNat x.2.1) ((0 : Int), ([], ([], ((0 : Int), ()))))).2.2.2.1, ())))) ((List.getD v10 (Int.toNat x.2.1) ((0 : Int), ([], ([], ((0 : Int), ()))))).1, ((List.getD v10 (Int.toNat x.2.1) ((0 : Int), ([], ([], ((0 : Int), ()))))).2.1, ((List.getD v10 (Int.toNat x.2.1) ((0 : Int), ([], ([], ((0 : Int), ()))))).2.2.1, ((List.getD v10 (Int.toNat x.2.1) ((0 : Int), ([], ([], ((0 : Int), ()))))).2.2.2.1, ()))))).bind fun t11 => bif (!t11.1) then (ke (.inl (false, ()))) else (let v12 : Int := (IntKind.wrap IntKind.i64 (x.2.1 + (1 : Int)))
 kn (x.1, (v12, (((x.2.2.1.1.1, (x.2.2.1.1.2.1, (x.2.2.1.1.2.2.1, (x.2.2.1.1.2.2.2.1, (x.2.2.1.1.2.2.2.2.1, (x.2.2.1.1.2.2.2.2.2.1, ())))))), (x.2.2.1.2.1, ())), (((x.2.2.2.1.1.1, (x.2.2.2.1.1.2.1, (x.2.2.2.1.1.2.2.1, (x.2.2.2.1.1.2.2.2.1, (x.2.2.2.1.1.2.2.2.2.1, (x.2.2.2.1.1.2.2.2.2.2.1, ())))))), (x.2.2.2.1.2.1, ())), ())))))) else (none)) else (none)) else (ke (.inr ()))
def QO.l1 (k : Nat) : Nat → QO.l1.σ → Option QO.l1.τ := Q14 (QO.l1.r k)
def QO.l1.T : StT := ⟨us 2 ++ .ptr 0 [] :: .ptr 1 [] :: us 18 ++ .dat (.int .i64) :: .dat (.int .i64) :: us 15, [.dat QgP, .dat QgP]⟩
def QO.l1.os : List Out := [⟨.ret, [.mask [4], .auto 0], ⟨us 4 ++ .dat .bool :: us 34, []⟩⟩, ⟨(.exit 0), [.mask [], .auto 0], ⟨us 39, []⟩⟩]
def QO.c (k : Nat) {ρ : Type} (a : QgR) (b : QgR) (K : Bool × Unit → Option ρ) : Option ρ :=
 (QO.p0 k (((a.1.1, (a.1.2.1, (a.1.2.2.1, (a.1.2.2.2.1, (a.1.2.2.2.2.1, (a.1.2.2.2.2.2.1, ())))))), (a.2.1, ())), (((b.1.1, (b.1.2.1, (b.1.2.2.1, (b.1.2.2.2.1, (b.1.2.2.2.2.1, (b.1.2.2.2.2.2.1, ())))))), (b.2.1, ())), ()))).bind fun t4 => (match t4 with | .inl t5 => (K (t5.1, ())) | .inr (t6) => (let v7 : QgW := t6.1.2.1
 let v8 : Int := (((List.length v7) : Nat) : Int)
 (QO.l1 k k (v8, ((0 : Int), (((t6.1.1.1, (t6.1.1.2.1, (t6.1.1.2.2.1, (t6.1.1.2.2.2.1, (t6.1.1.2.2.2.2.1, (t6.1.1.2.2.2.2.2.1, ())))))), (t6.1.2.1, ())), (((t6.2.1.1.1, (t6.2.1.1.2.1, (t6.2.1.1.2.2.1, (t6.2.1.1.2.2.2.1, (t6.2.1.1.2.2.2.2.1, (t6.2.1.1.2.2.2.2.2.1, ())))))), (t6.2.1.2.1, ())), ()))))).bind fun t13 => (match t13 with | .inl t14 => (K (t14.1, ())) | .inr (t15) => (K (true, ())))))
def QO (k : Nat) (a : QgR) (b : QgR) : Option (Bool × Unit) := QO.c k a b some
def QO.tin : List Ty := [QgP, QgP]
def QO.tout : List Ty := [.bool]
def QO.sem (k : Nat) : QP := QW QO.tin QO.tout fun x => QO k x.1 x.2.1
noncomputable def QO.ctx (k : Nat) : Ctx := ⟨Tryz.prog, gam [(55, (Q1D.sem k))]⟩
theorem QO.gok (k : Nat) : ∀ f, QF Tryz.prog f ((QO.ctx k).Γ f) := (Qk (Q1D.sem_ok k) QX)
theorem QO.p0.is (k : Nat) : Q1O (QO.ctx k) (QM (Func.code Tryz.f22) [1, 0]) (.nil) QO.p0.T QO.p0.os (QO.p0.r k) := by
 intro ρ x K; kernel_rfl
theorem QO.p0.ok (k : Nat) : StOK 0 Tryz.prog (QM (Func.code Tryz.f22) [1, 0]) (Qn QO.p0.T QO.p0.os (QO.p0 k)) :=
 Q1F (C := QO.ctx k) (T := QO.p0.T) (os := QO.p0.os) (QO.gok k) Tryz.mix (fun x K => QO.p0.r k x K) Q1.nil (by kernel_rfl) (by kernel_rfl) (QO.p0.is k)
theorem QO.l1.round (k : Nat) : Q10 (QO.ctx k) (QM (Func.code Tryz.f22) [1, 1, 0, 1, 0, 0]) (.nil) QO.l1.T [.mask [2, 3, 22, 23], .auto 0] QO.l1.os (QO.l1.r k) := by
 intro ρ x kn ke; kernel_rfl
theorem QO.l1.ok (k : Nat) : StOK 0 Tryz.prog (.loop (QM (Func.code Tryz.f22) [1, 1, 0, 1, 0, 0])) (Qn QO.l1.T QO.l1.os (QO.l1 k k)) :=
 Q11 (C := QO.ctx k) (QO.gok k) Tryz.mix Q1.nil (by kernel_rfl) (by kernel_rfl) (by kernel_rfl) (QO.l1.round k) k
def QO.ann (k : Nat) : Ann := .node [] none (.nil) (.node [] none (.node [.mask [2, 3], .auto 0] (some (Qn QO.p0.T QO.p0.os (QO.p0 k))) .nil .nil) (.node [] none (.node [] none (.nil) (.node [] none (.node [.mask [2, 3, 22, 23], .auto 0] (some (Qn QO.l1.T QO.l1.os (QO.l1 k k))) .nil .nil) (.nil))) (.nil)))
theorem QO.body (k : Nat) : Q0R (QO.ctx k) Tryz.f22 (Func.code Tryz.f22) (QO.ann k) QO.tin QO.tout (fun x K => QO.c k x.1 x.2.1 K) := by
 intro ρ x K; kernel_rfl
theorem QO.sem_ok (k : Nat) : QF Tryz.prog 22 (QO.sem k) :=
 QD (C := QO.ctx k) (QO.gok k) Tryz.mix (c := Func.code Tryz.f22) (ann := QO.ann k) (tin := QO.tin) (tout := QO.tout) (fun x K => QO.c k x.1 x.2.1 K) Tryz.func22 (by kernel_rfl) (by kernel_rfl) (Q1.seq Q1.nil (Q1.seq (Q1.loop (by kernel_rfl) (QO.p0.ok k)) (Q1.seq (Q1.seq Q1.nil (Q1.block (Q1.loop (by kernel_rfl) (QO.l1.ok k)))) Q1.nil))) (QO.body k)
abbrev Q2.p0.σ : Type := ByteArray × ByteArray × Int × ByteArray × Int × QgR × QgT × Unit
abbrev Q2.p0.τ : Type := QgO 
def Q2.p0.r (k : Nat) {ρ : Type} (x : Q2.p0.σ) (K : Q2.p0.τ → Option ρ) : Option ρ :=
 bif (x.2.2.2.2.1 == (0 : Int)) then (let v6 : Int := (((ByteArray.size x.2.2.2.1) : Nat) : Int)
 bif (decide (v6 > (8192 : Int))) then (K (x.1, (x.2.1, (x.2.2.1, (x.2.2.2.1, ((110 : Int), (((x.2.2.2.2.2.1.1.1, (x.2.2.2.2.2.1.1.2.1, (x.2.2.2.2.2.1.1.2.2.1, (x.2.2.2.2.2.1.1.2.2.2.1, (x.2.2.2.2.2.1.1.2.2.2.2.1, (x.2.2.2.2.2.1.1.2.2.2.2.2.1, ())))))), (x.2.2.2.2.2.1.2.1, ())), (((x.2.2.2.2.2.2.1.1.1, (x.2.2.2.2.2.2.1.1.2.1, (x.2.2.2.2.2.2.1.1.2.2.1, (x.2.2.2.2.2.2.1.1.2.2.2.1, (x.2.2.2.2.2.2.1.1.2.2.2.2.1, (x.2.2.2.2.2.2.1.1.2.2.2.2.2.1, ())))))), (x.2.2.2.2.2.2.1.2.1, ())), ())))))))) else (K (x.1, (x.2.1, (x.2.2.1, (x.2.2.2.1, (x.2.2.2.2.1, (((x.2.2.2.2.2.1.1.1, (x.2.2.2.2.2.1.1.2.1, (x.2.2.2.2.2.1.1.2.2.1, (x.2.2.2.2.2.1.1.2.2.2.1, (x.2.2.2.2.2.1.1.2.2.2.2.1, (x.2.2.2.2.2.1.1.2.2.2.2.2.1, ())))))), (x.2.2.2.2.2.1.2.1, ())), (((x.2.2.2.2.2.2.1.1.1, (x.2.2.2.2.2.2.1.1.2.1, (x.2.2.2.2.2.2.1.1.2.2.1, (x.2.2.2.2.2.2.1.1.2.2.2.1, (x.2.2.2.2.2.2.1.1.2.2.2.2.1, (x.2.2.2.2.2.2.1.1.2.2.2.2.2.1, ())))))), (x.2.2.2.2.2.2.1.2.1, ())), ()))))))))) else (K (x.1, (x.2.1, (x.2.2.1, (x.2.2.2.1, (x.2.2.2.2.1, (((x.2.2.2.2.2.1.1.1, (x.2.2.2.2.2.1.1.2.1, (x.2.2.2.2.2.1.1.2.2.1, (x.2.2.2.2.2.1.1.2.2.2.1, (x.2.2.2.2.2.1.1.2.2.2.2.1, (x.2.2.2.2.2.1.1.2.2.2.2.2.1, ())))))), (x.2.2.2.2.2.1.2.1, ())), (((x.2.2.2.2.2.2.1.1.1, (x.2.2.2.2.2.2.1.1.2.1, (x.2.2.2.2.2.2.1.1.2.2.1, (x.2.2.2.2.2.2.1.1.2.2.2.1, (x.2.2.2.2.2.2.1.1.2.2.2.2.1, (x.2.2.2.2.2.2.1.1.2.2.2.2.2.1, ())))))), (x.2.2.2.2.2.2.1.2.1, ())), ()))))))))
def Q2.p0 (k : Nat) (x : Q2.p0.σ) : Option Q2.p0.τ := Q2.p0.r k x some
def Q2.p0.T : StT := ⟨us 1 ++ .dat .str :: .ptr 0 [] :: us 2 ++ .dat .str :: .dat (.int .i64) :: .ptr 1 [] :: .dat .str :: .dat (.int .i64) :: us 110, [.dat QgP, .dat QgQ]⟩
def Q2.p0.os : List Out := [⟨.normal, [.mask [1, 2, 5, 6, 7, 8, 9], .auto 0], ⟨us 1 ++ .dat .str :: .ptr 0 [] :: us 2 ++ .dat .str :: .dat (.int .i64) :: .ptr 1 [] :: .dat .str :: .dat (.int .i64) :: us 110, [.dat QgP, .dat QgQ]⟩⟩]
abbrev Q2.p1.σ : Type := ByteArray × ByteArray × Int × ByteArray × Int × QgR × QgT × Unit
abbrev Q2.p1.τ : Type := QgO 
def Q2.p1.r (k : Nat) {ρ : Type} (x : Q2.p1.σ) (K : Q2.p1.τ → Option ρ) : Option ρ :=
 bif (x.2.2.2.2.1 != (0 : Int)) then (K (x.1, (x.2.1, (x.2.2.1, ((⟨(List.toArray [])⟩ : ByteArray), (x.2.2.2.2.1, (((x.2.2.2.2.2.1.1.1, (x.2.2.2.2.2.1.1.2.1, (x.2.2.2.2.2.1.1.2.2.1, (x.2.2.2.2.2.1.1.2.2.2.1, (x.2.2.2.2.2.1.1.2.2.2.2.1, (x.2.2.2.2.2.1.1.2.2.2.2.2.1, ())))))), (x.2.2.2.2.2.1.2.1, ())), (((x.2.2.2.2.2.2.1.1.1, (x.2.2.2.2.2.2.1.1.2.1, (x.2.2.2.2.2.2.1.1.2.2.1, (x.2.2.2.2.2.2.1.1.2.2.2.1, (x.2.2.2.2.2.2.1.1.2.2.2.2.1, (x.2.2.2.2.2.2.1.1.2.2.2.2.2.1, ())))))), (x.2.2.2.2.2.2.1.2.1, ())), ())))))))) else (K (x.1, (x.2.1, (x.2.2.1, (x.2.2.2.1, (x.2.2.2.2.1, (((x.2.2.2.2.2.1.1.1, (x.2.2.2.2.2.1.1.2.1, (x.2.2.2.2.2.1.1.2.2.1, (x.2.2.2.2.2.1.1.2.2.2.1, (x.2.2.2.2.2.1.1.2.2.2.2.1, (x.2.2.2.2.2.1.1.2.2.2.2.2.1, ())))))), (x.2.2.2.2.2.1.2.1, ())), (((x.2.2.2.2.2.2.1.1.1, (x.2.2.2.2.2.2.1.1.2.1, (x.2.2.2.2.2.2.1.1.2.2.1, (x.2.2.2.2.2.2.1.1.2.2.2.1, (x.2.2.2.2.2.2.1.1.2.2.2.2.1, (x.2.2.2.2.2.2.1.1.2.2.2.2.2.1, ())))))), (x.2.2.2.2.2.2.1.2.1, ())), ()))))))))
def Q2.p1 (k : Nat) (x : Q2.p1.σ) : Option Q2.p1.τ := Q2.p1.r k x some
def Q2.p1.T : StT := ⟨us 1 ++ .dat .str :: .ptr 0 [] :: us 2 ++ .dat .str :: .dat (.int .i64) :: .ptr 1 [] :: .dat .str :: .dat (.int .i64) :: us 110, [.dat QgP, .dat QgQ]⟩
def Q2.p1.os : List Out := [⟨.normal, [.mask [1, 2, 5, 6, 7, 8, 9], .auto 0], ⟨us 1 ++ .dat .str :: .ptr 0 [] :: us 2 ++ .dat .str :: .dat (.int .i64) :: .ptr 1 [] :: .dat .str :: .dat (.int .i64) :: us 110, [.dat QgP, .dat QgQ]⟩⟩]
abbrev Q2.p2.σ : Type := ByteArray × Int × ByteArray × Int × Int × Int × Int × Int × QgR × QgT × QgR × QgT × Unit
abbrev Q2.p2.τ : Type := (Bool × Unit) ⊕ (ByteArray × ByteArray × Int × QgR × QgR × Unit)
def Q2.p2.r (k : Nat) {ρ : Type} (x : Q2.p2.σ) (K : Q2.p2.τ → Option ρ) : Option ρ :=
 (Q0e k ).bind fun t15 => bif (!t15.1) then (K (.inl (false, ()))) else (bif (!(Q32 x.1 x.2.2.1)) then (K (.inl (false, ()))) else (bif (x.2.1 != x.2.2.2.1) then (K (.inl (false, ()))) else ((Q0G k ((x.2.2.2.2.2.2.2.2.1.1.1, (x.2.2.2.2.2.2.2.2.1.1.2.1, (x.2.2.2.2.2.2.2.2.1.1.2.2.1, (x.2.2.2.2.2.2.2.2.1.1.2.2.2.1, (x.2.2.2.2.2.2.2.2.1.1.2.2.2.2.1, (x.2.2.2.2.2.2.2.2.1.1.2.2.2.2.2.1, ())))))), (x.2.2.2.2.2.2.2.2.1.2.1, ()))).bind fun t16 => (Qv k ((x.2.2.2.2.2.2.2.2.2.1.1.1, (x.2.2.2.2.2.2.2.2.2.1.1.2.1, (x.2.2.2.2.2.2.2.2.2.1.1.2.2.1, (x.2.2.2.2.2.2.2.2.2.1.1.2.2.2.1, (x.2.2.2.2.2.2.2.2.2.1.1.2.2.2.2.1, (x.2.2.2.2.2.2.2.2.2.1.1.2.2.2.2.2.1, ())))))), (x.2.2.2.2.2.2.2.2.2.1.2.1, ()))).bind fun t17 => let v18 : Int := (((ByteArray.size t17.1) : Nat) : Int)
 bif (t16.1 != v18) then (K (.inl (false, ()))) else (bif (x.2.2.2.2.1 != x.2.2.2.2.2.2.1) then (K (.inl (false, ()))) else (bif (x.2.2.2.2.2.1 != x.2.2.2.2.2.2.2.1) then (K (.inl (false, ()))) else ((QG k ((x.2.2.2.2.2.2.2.2.2.2.1.1.1, (x.2.2.2.2.2.2.2.2.2.2.1.1.2.1, (x.2.2.2.2.2.2.2.2.2.2.1.1.2.2.1, (x.2.2.2.2.2.2.2.2.2.2.1.1.2.2.2.1, (x.2.2.2.2.2.2.2.2.2.2.1.1.2.2.2.2.1, (x.2.2.2.2.2.2.2.2.2.2.1.1.2.2.2.2.2.1, ())))))), (x.2.2.2.2.2.2.2.2.2.2.1.2.1, ()))).bind fun t19 => (Qv k ((t19.1.1.1, (t19.1.1.2.1, (t19.1.1.2.2.1, (t19.1.1.2.2.2.1, (t19.1.1.2.2.2.2.1, (t19.1.1.2.2.2.2.2.1, ())))))), (t19.1.2.1, ()))).bind fun t20 => (Qv k ((x.2.2.2.2.2.2.2.2.2.2.2.1.1.1, (x.2.2.2.2.2.2.2.2.2.2.2.1.1.2.1, (x.2.2.2.2.2.2.2.2.2.2.2.1.1.2.2.1, (x.2.2.2.2.2.2.2.2.2.2.2.1.1.2.2.2.1, (x.2.2.2.2.2.2.2.2.2.2.2.1.1.2.2.2.2.1, (x.2.2.2.2.2.2.2.2.2.2.2.1.1.2.2.2.2.2.1, ())))))), (x.2.2.2.2.2.2.2.2.2.2.2.1.2.1, ()))).bind fun t21 => bif (!(Q32 t20.1 t21.1)) then (K (.inl (false, ()))) else (K (.inr (x.1, (x.2.2.1, (x.2.2.2.1, (((x.2.2.2.2.2.2.2.2.1.1.1, (x.2.2.2.2.2.2.2.2.1.1.2.1, (x.2.2.2.2.2.2.2.2.1.1.2.2.1, (x.2.2.2.2.2.2.2.2.1.1.2.2.2.1, (x.2.2.2.2.2.2.2.2.1.1.2.2.2.2.1, (x.2.2.2.2.2.2.2.2.1.1.2.2.2.2.2.1, ())))))), (x.2.2.2.2.2.2.2.2.1.2.1, ())), (((x.2.2.2.2.2.2.2.2.2.2.1.1.1, (x.2.2.2.2.2.2.2.2.2.2.1.1.2.1, (x.2.2.2.2.2.2.2.2.2.2.1.1.2.2.1, (x.2.2.2.2.2.2.2.2.2.2.1.1.2.2.2.1, (x.2.2.2.2.2.2.2.2.2.2.1.1.2.2.2.2.1, (x.2.2.2.2.2.2.2.2.2.2.1.1.2.2.2.2.2.1, ())))))), (x.2.2.2.2.2.2.2.2.2.2.1.2.1, ())), ())))))))))))))
def Q2.p2 (k : Nat) (x : Q2.p2.σ) : Option Q2.p2.τ := Q2.p2.r k x some
def Q2.p2.T : StT := ⟨us 2 ++ .ptr 0 [] :: us 2 ++ .dat .str :: .dat (.int .i64) :: .ptr 1 [] :: .dat .str :: .dat (.int .i64) :: .ptr 2 [] :: .dat (.int .i64) :: .dat (.int .i64) :: .ptr 3 [] :: .dat (.int .i64) :: .dat (.int .i64) :: us 104, [.dat QgP, .dat QgQ, .dat QgP, .dat QgQ]⟩
def Q2.p2.os : List Out := [⟨.ret, [.mask [4], .auto 0], ⟨us 4 ++ .dat .bool :: us 115, []⟩⟩, ⟨.normal, [.mask [2, 5, 8, 9, 10], .auto 0], ⟨us 2 ++ .ptr 0 [] :: us 2 ++ .dat .str :: us 2 ++ .dat .str :: .dat (.int .i64) :: .ptr 1 [] :: us 109, [.dat QgP, .dat QgP]⟩⟩]
def Q2.c (k : Nat) {ρ : Type} (b : QgR) (s : ByteArray) (K : Bool × Unit → Option ρ) : Option ρ :=
 (Q04 k ((b.1.1, (b.1.2.1, (b.1.2.2.1, (b.1.2.2.2.1, (b.1.2.2.2.2.1, (b.1.2.2.2.2.2.1, ())))))), (b.2.1, ()))).bind fun t0 => let v1 : ByteArray := t0.1
 let v2 : Int := t0.2.1
 (QG k ((b.1.1, (b.1.2.1, (b.1.2.2.1, (b.1.2.2.2.1, (b.1.2.2.2.2.1, (b.1.2.2.2.2.2.1, ())))))), (b.2.1, ()))).bind fun t3 => (Qv k ((t3.1.1.1, (t3.1.1.2.1, (t3.1.1.2.2.1, (t3.1.1.2.2.2.1, (t3.1.1.2.2.2.2.1, (t3.1.1.2.2.2.2.2.1, ())))))), (t3.1.2.1, ()))).bind fun t4 => (QB k ((t3.1.1.1, (t3.1.1.2.1, (t3.1.1.2.2.1, (t3.1.1.2.2.2.1, (t3.1.1.2.2.2.2.1, (t3.1.1.2.2.2.2.2.1, ())))))), (t3.1.2.1, ()))).bind fun t5 => (Q2.p0 k (s, (v1, (v2, (t4.1, (t5.1, (((b.1.1, (b.1.2.1, (b.1.2.2.1, (b.1.2.2.2.1, (b.1.2.2.2.2.1, (b.1.2.2.2.2.2.1, ())))))), (b.2.1, ())), (((t3.1.1.1, (t3.1.1.2.1, (t3.1.1.2.2.1, (t3.1.1.2.2.2.1, (t3.1.1.2.2.2.2.1, (t3.1.1.2.2.2.2.2.1, ())))))), (t3.1.2.1, ())), ())))))))).bind fun t7 => (Q2.p1 k (t7.1, (t7.2.1, (t7.2.2.1, (t7.2.2.2.1, (t7.2.2.2.2.1, (((t7.2.2.2.2.2.1.1.1, (t7.2.2.2.2.2.1.1.2.1, (t7.2.2.2.2.2.1.1.2.2.1, (t7.2.2.2.2.2.1.1.2.2.2.1, (t7.2.2.2.2.2.1.1.2.2.2.2.1, (t7.2.2.2.2.2.1.1.2.2.2.2.2.1, ())))))), (t7.2.2.2.2.2.1.2.1, ())), (((t7.2.2.2.2.2.2.1.1.1, (t7.2.2.2.2.2.2.1.1.2.1, (t7.2.2.2.2.2.2.1.1.2.2.1, (t7.2.2.2.2.2.2.1.1.2.2.2.1, (t7.2.2.2.2.2.2.1.1.2.2.2.2.1, (t7.2.2.2.2.2.2.1.1.2.2.2.2.2.1, ())))))), (t7.2.2.2.2.2.2.1.2.1, ())), ())))))))).bind fun t8 => (Q07 k t8.1).bind fun t9 => let v10 : Int := t9.2.1
 let v11 : Int := t9.2.2.1
 (Qa k t8.1).bind fun t12 => let v13 : Int := t12.2.1
 let v14 : Int := t12.2.2.1
 (Q2.p2 k (t8.2.1, (t8.2.2.1, (t8.2.2.2.1, (t8.2.2.2.2.1, (v10, (v11, (v13, (v14, (((t8.2.2.2.2.2.1.1.1, (t8.2.2.2.2.2.1.1.2.1, (t8.2.2.2.2.2.1.1.2.2.1, (t8.2.2.2.2.2.1.1.2.2.2.1, (t8.2.2.2.2.2.1.1.2.2.2.2.1, (t8.2.2.2.2.2.1.1.2.2.2.2.2.1, ())))))), (t8.2.2.2.2.2.1.2.1, ())), (((t8.2.2.2.2.2.2.1.1.1, (t8.2.2.2.2.2.2.1.1.2.1, (t8.2.2.2.2.2.2.1.1.2.2.1, (t8.2.2.2.2.2.2.1.1.2.2.2.1, (t8.2.2.2.2.2.2.1.1.2.2.2.2.1, (t8.2.2.2.2.2.2.1.1.2.2.2.2.2.1, ())))))), (t8.2.2.2.2.2.2.1.2.1, ())), (((t9.1.1.1, (t9.1.1.2.1, (t9.1.1.2.2.1, (t9.1.1.2.2.2.1, (t9.1.1.2.2.2.2.1, (t9.1.1.2.2.2.2.2.1, ())))))), (t9.1.2.1, ())), (((t12.1.1.1, (t12.1.1.2.1, (t12.1.1.2.2.1, (t12.1.1.2.2.2.1, (t12.1.1.2.2.2.2.1, (t12.1.1.2.2.2.2.2.1, ())))))), (t12.1.2.1, ())), ()))))))))))))).bind fun t22 => (match t22 with | .inl t23 => (K (t23.1, ())) | .inr (t24) => (bif (t24.2.2.1 != (0 : Int)) then (K (true, ())) else ((Q07 k t24.1).bind fun t25 => let v26 : Int := t25.2.1
 let v27 : Int := t25.2.2.1
 bif (v27 == (0 : Int)) then ((QO k ((t25.1.1.1, (t25.1.1.2.1, (t25.1.1.2.2.1, (t25.1.1.2.2.2.1, (t25.1.1.2.2.2.2.1, (t25.1.1.2.2.2.2.2.1, ())))))), (t25.1.2.1, ())) ((t24.2.2.2.1.1.1, (t24.2.2.2.1.1.2.1, (t24.2.2.2.1.1.2.2.1, (t24.2.2.2.1.1.2.2.2.1, (t24.2.2.2.1.1.2.2.2.2.1, (t24.2.2.2.1.1.2.2.2.2.2.1, ())))))), (t24.2.2.2.1.2.1, ()))).bind fun t28 => bif t28.1 then ((QO k ((t24.2.2.2.1.1.1, (t24.2.2.2.1.1.2.1, (t24.2.2.2.1.1.2.2.1, (t24.2.2.2.1.1.2.2.2.1, (t24.2.2.2.1.1.2.2.2.2.1, (t24.2.2.2.1.1.2.2.2.2.2.1, ())))))), (t24.2.2.2.1.2.1, ())) ((t24.2.2.2.1.1.1, (t24.2.2.2.1.1.2.1, (t24.2.2.2.1.1.2.2.1, (t24.2.2.2.1.1.2.2.2.1, (t24.2.2.2.1.1.2.2.2.2.1, (t24.2.2.2.1.1.2.2.2.2.2.1, ())))))), (t24.2.2.2.1.2.1, ()))).bind fun t29 => bif t29.1 then ((QO k ((t24.2.2.2.1.1.1, (t24.2.2.2.1.1.2.1, (t24.2.2.2.1.1.2.2.1, (t24.2.2.2.1.1.2.2.2.1, (t24.2.2.2.1.1.2.2.2.2.1, (t24.2.2.2.1.1.2.2.2.2.2.1, ())))))), (t24.2.2.2.1.2.1, ())) ((t24.2.2.2.2.1.1.1, (t24.2.2.2.2.1.1.2.1, (t24.2.2.2.2.1.1.2.2.1, (t24.2.2.2.2.1.1.2.2.2.1, (t24.2.2.2.2.1.1.2.2.2.2.1, (t24.2.2.2.2.1.1.2.2.2.2.2.1, ())))))), (t24.2.2.2.2.1.2.1, ()))).bind fun t30 => (QG k ((t24.2.2.2.2.1.1.1, (t24.2.2.2.2.1.1.2.1, (t24.2.2.2.2.1.1.2.2.1, (t24.2.2.2.2.1.1.2.2.2.1, (t24.2.2.2.2.1.1.2.2.2.2.1, (t24.2.2.2.2.1.1.2.2.2.2.2.1, ())))))), (t24.2.2.2.2.1.2.1, ()))).bind fun t31 => (Qv k ((t31.1.1.1, (t31.1.1.2.1, (t31.1.1.2.2.1, (t31.1.1.2.2.2.1, (t31.1.1.2.2.2.2.1, (t31.1.1.2.2.2.2.2.1, ())))))), (t31.1.2.1, ()))).bind fun t32 => K ((t30.1 == (Q32 t24.2.1 t32.1)), ())) else (K (false, ()))) else (K (false, ()))) else (K (false, ())))))
def Q2 (k : Nat) (b : QgR) (s : ByteArray) : Option (Bool × Unit) := Q2.c k b s some
def Q2.tin : List Ty := [QgP, .str]
def Q2.tout : List Ty := [.bool]
def Q2.sem (k : Nat) : QP := QW Q2.tin Q2.tout fun x => Q2 k x.1 x.2.1
noncomputable def Q2.ctx (k : Nat) : Ctx := ⟨Tryz.prog, gam [(15, (Q04.sem k)), (16, (QG.sem k)), (17, (Qv.sem k)), (18, (QB.sem k)), (19, (Q07.sem k)), (20, (Qa.sem k)), (9, (Q0e.sem k)), (21, (Q0G.sem k)), (22, (QO.sem k))]⟩
theorem Q2.gok (k : Nat) : ∀ f, QF Tryz.prog f ((Q2.ctx k).Γ f) := (Qk (Q04.sem_ok k) (Qk (QG.sem_ok k) (Qk (Qv.sem_ok k) (Qk (QB.sem_ok k) (Qk (Q07.sem_ok k) (Qk (Qa.sem_ok k) (Qk (Q0e.sem_ok k) (Qk (Q0G.sem_ok k) (Qk (QO.sem_ok k) QX)))))))))
theorem Q2.p0.is (k : Nat) : Q1O (Q2.ctx k) (QM (Func.code Tryz.f4) [1, 1, 1, 1, 1, 0]) (.nil) Q2.p0.T Q2.p0.os (Q2.p0.r k) := by
 intro ρ x K; kernel_rfl
theorem Q2.p0.ok (k : Nat) : StOK 0 Tryz.prog (QM (Func.code Tryz.f4) [1, 1, 1, 1, 1, 0]) (Qn Q2.p0.T Q2.p0.os (Q2.p0 k)) :=
 Q1F (C := Q2.ctx k) (T := Q2.p0.T) (os := Q2.p0.os) (Q2.gok k) Tryz.mix (fun x K => Q2.p0.r k x K) Q1.nil (by kernel_rfl) (by kernel_rfl) (Q2.p0.is k)
theorem Q2.p1.is (k : Nat) : Q1O (Q2.ctx k) (QM (Func.code Tryz.f4) [1, 1, 1, 1, 1, 1, 0]) (.nil) Q2.p1.T Q2.p1.os (Q2.p1.r k) := by
 intro ρ x K; kernel_rfl
theorem Q2.p1.ok (k : Nat) : StOK 0 Tryz.prog (QM (Func.code Tryz.f4) [1, 1, 1, 1, 1, 1, 0]) (Qn Q2.p1.T Q2.p1.os (Q2.p1 k)) :=
 Q1F (C := Q2.ctx k) (T := Q2.p1.T) (os := Q2.p1.os) (Q2.gok k) Tryz.mix (fun x K => Q2.p1.r k x K) Q1.nil (by kernel_rfl) (by kernel_rfl) (Q2.p1.is k)
theorem Q2.p2.is (k : Nat) : Q1O (Q2.ctx k) (QM (Func.code Tryz.f4) [1, 1, 1, 1, 1, 1, 1, 1, 1, 0]) (.nil) Q2.p2.T Q2.p2.os (Q2.p2.r k) := by
 intro ρ x K; kernel_rfl
theorem Q2.p2.ok (k : Nat) : StOK 0 Tryz.prog (QM (Func.code Tryz.f4) [1, 1, 1, 1, 1, 1, 1, 1, 1, 0]) (Qn Q2.p2.T Q2.p2.os (Q2.p2 k)) :=
 Q1F (C := Q2.ctx k) (T := Q2.p2.T) (os := Q2.p2.os) (Q2.gok k) Tryz.mix (fun x K => Q2.p2.r k x K) Q1.nil (by kernel_rfl) (by kernel_rfl) (Q2.p2.is k)
def Q2.ann (k : Nat) : Ann := .node [] none (.nil) (.node [] none (.nil) (.node [] none (.nil) (.node [] none (.nil) (.node [] none (.nil) (.node [] none (.node [.mask [1, 2, 5, 6, 7, 8, 9], .auto 0] (some (Qn Q2.p0.T Q2.p0.os (Q2.p0 k))) .nil .nil) (.node [] none (.node [.mask [1, 2, 5, 6, 7, 8, 9], .auto 0] (some (Qn Q2.p1.T Q2.p1.os (Q2.p1 k))) .nil .nil) (.node [] none (.nil) (.node [] none (.nil) (.node [] none (.node [.mask [2, 5, 6, 7, 8, 9, 10, 11, 12, 13, 14, 15], .auto 0] (some (Qn Q2.p2.T Q2.p2.os (Q2.p2 k))) .nil .nil) (.nil))))))))))
theorem Q2.body (k : Nat) : Q0R (Q2.ctx k) Tryz.f4 (Func.code Tryz.f4) (Q2.ann k) Q2.tin Q2.tout (fun x K => Q2.c k x.1 x.2.1 K) := by
 intro ρ x K; kernel_rfl
theorem Q2.sem_ok (k : Nat) : QF Tryz.prog 4 (Q2.sem k) :=
 QD (C := Q2.ctx k) (Q2.gok k) Tryz.mix (c := Func.code Tryz.f4) (ann := Q2.ann k) (tin := Q2.tin) (tout := Q2.tout) (fun x K => Q2.c k x.1 x.2.1 K) Tryz.func4 (by kernel_rfl) (by kernel_rfl) (Q1.seq Q1.nil (Q1.seq Q1.nil (Q1.seq Q1.nil (Q1.seq Q1.nil (Q1.seq Q1.nil (Q1.seq (Q1.loop (by kernel_rfl) (Q2.p0.ok k)) (Q1.seq (Q1.loop (by kernel_rfl) (Q2.p1.ok k)) (Q1.seq Q1.nil (Q1.seq Q1.nil (Q1.seq (Q1.loop (by kernel_rfl) (Q2.p2.ok k)) Q1.nil)))))))))) (Q2.body k)
end Go.Am
