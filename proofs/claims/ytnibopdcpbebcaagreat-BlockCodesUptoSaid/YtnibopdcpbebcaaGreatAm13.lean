/- A part of a proof: a machine of abstract values that tells what functions of the program compute, and the plain facts on them. -/
import Derived.Test.YtnibopdcpbebcaaGreatAm12
import Derived.KernelRfl
set_option linter.unusedVariables false
set_option linter.unusedSimpArgs false
set_option linter.unnecessarySimpa false
set_option linter.unusedSectionVars false
namespace Go.Am
abbrev Qiv : Ty := (.pair (.int .u32) .unit)
abbrev Qiu : Type := (List (Int × (ByteArray × Unit)))
abbrev Qit : Type := (ByteArray × (Int × (Int × Unit)))
abbrev Qis : Type := (Int × (Unit × (Unit × (Int × Unit))))
abbrev Qir : Type := (List ((List Int) × (Int × (ByteArray × (Int × Unit)))))
abbrev Qiq : Ty := (.pair .str (.pair (.int .i64) (.pair (.int .i64) .unit)))
abbrev Qip : Type := (List (((List Int) × (Int × Unit)) × (ByteArray × (Int × Unit))))
abbrev Qio : Type := ((Int × ((List Int) × ((List Int) × (Int × (Int × (Int × Unit)))))) × (Unit × Unit))
abbrev Qin : Ty := (.pair (.arr 32 (.int .u8)) (.pair (.int .u32) (.pair .str  Qiv )))
abbrev Qim : Type := (Int × Int ×  Qio  × Unit)
abbrev Qil : Type := (Int × ( Qir  × ( Qiu  × (Int × Unit))))
abbrev Qik : Type := (List  Qil )
abbrev Qij : Type := (Int × ( Qip  × ( Qiu  × (Int × Unit))))
abbrev Qii : Type := (List  Qij )
abbrev Qih : Ty := (.pair (.int .u32) (.pair (.arr 32 (.int .u8)) (.pair (.arr 32 (.int .u8)) (.pair (.int .u32) (.pair (.int .u32)  Qiv )))))
abbrev Qig : Ty := (.pair (.int .u32) (.pair (.sl  Qin ) (.pair (.sl (.pair (.int .u64) (.pair .str .unit)))  Qiv )))
abbrev Qif : Type := ((Int × ((List Int) × ((List Int) × (Int × (Int × (Int × Unit)))))) × ( Qik  × Unit))
abbrev Qie : Ty := (.pair (.int .u32) (.pair (.sl (.pair (.pair (.arr 32 (.int .u8))  Qiv ) (.pair .str  Qiv ))) (.pair (.sl (.pair (.int .u64) (.pair .str .unit)))  Qiv )))
abbrev Qid : Type := ((Int × ((List Int) × ((List Int) × (Int × (Int × (Int × Unit)))))) × ( Qii  × Unit))
abbrev Qic : Ty := (.pair  Qih  (.pair (.sl  Qig ) .unit))
abbrev Qib : Ty := (.pair  Qih  (.pair (.sl  Qie ) .unit))
abbrev Qia : Type := (ByteArray × ByteArray × Int × ByteArray × Int ×  Qid  ×  Qif  × Unit)
end Go.Am
namespace Go.Am
open Go Go.Proofs
set_option maxRecDepth 100000
abbrev Qg.l0.σ : Type := Int × Qij × Qis × Qis × Qir × Unit
abbrev Qg.l0.τ : Type := (Qij × Qis × Qis × Qir × Unit)
def Qg.l0.r (k : Nat) {ρ : Type} (x : Qg.l0.σ) (kn : Qg.l0.σ → Option ρ) (ke : Qg.l0.τ → Option ρ) : Option ρ :=
 let v2 : Qip := x.2.1.2.1
 let v3 : Int := (((List.length v2) : Nat) : Int)
 bif (decide (x.1 < v3)) then (let v4 : Qip := x.2.1.2.1
 bif (decide (((0 : Int) ≤ x.1) ∧ (x.1 < (((List.length v4) : Nat) : Int)))) then (let v5 : (List Int) := (List.getD v4 (Int.toNat x.1) (((List.replicate 32 (0 : Int)), ((0 : Int), ())), (ByteArray.empty, ((0 : Int), ())))).1.1
 let v6 : Qip := x.2.1.2.1
 bif (decide (((0 : Int) ≤ x.1) ∧ (x.1 < (((List.length v6) : Nat) : Int)))) then (let v7 : Int := (List.getD v6 (Int.toNat x.1) (((List.replicate 32 (0 : Int)), ((0 : Int), ())), (ByteArray.empty, ((0 : Int), ())))).1.2.1
 let v8 : Qip := x.2.1.2.1
 bif (decide (((0 : Int) ≤ x.1) ∧ (x.1 < (((List.length v8) : Nat) : Int)))) then (let v9 : ByteArray := (List.getD v8 (Int.toNat x.1) (((List.replicate 32 (0 : Int)), ((0 : Int), ())), (ByteArray.empty, ((0 : Int), ())))).2.1
 let v10 : Qip := x.2.1.2.1
 bif (decide (((0 : Int) ≤ x.1) ∧ (x.1 < (((List.length v10) : Nat) : Int)))) then (let v11 : Int := (List.getD v10 (Int.toNat x.1) (((List.replicate 32 (0 : Int)), ((0 : Int), ())), (ByteArray.empty, ((0 : Int), ())))).2.2.1
 bif (Nat.ble (((List.length x.2.2.2.2.1) + (List.length (List.set (List.replicate 1 ((List.replicate 32 (0 : Int)), ((0 : Int), (ByteArray.empty, ((0 : Int), ()))))) 0 (v5, (v7, (v9, (v11, ()))))))) * 64) 140737488355328) then (let v12 : Int := (IntKind.wrap IntKind.i64 (x.1 + (1 : Int)))
 kn (v12, ((x.2.1.1, (x.2.1.2.1, (x.2.1.2.2.1, (x.2.1.2.2.2.1, ())))), ((x.2.2.1.1, ((), ((), (x.2.2.1.2.2.2.1, ())))), ((x.2.2.2.1.1, ((), ((), (x.2.2.2.1.2.2.2.1, ())))), ((x.2.2.2.2.1 ++ (List.set (List.replicate 1 ((List.replicate 32 (0 : Int)), ((0 : Int), (ByteArray.empty, ((0 : Int), ()))))) 0 (v5, (v7, (v9, (v11, ())))))), ())))))) else (none)) else (none)) else (none)) else (none)) else (none)) else (ke ((x.2.1.1, (x.2.1.2.1, (x.2.1.2.2.1, (x.2.1.2.2.2.1, ())))), ((x.2.2.1.1, ((), ((), (x.2.2.1.2.2.2.1, ())))), ((x.2.2.2.1.1, ((), ((), (x.2.2.2.1.2.2.2.1, ())))), (x.2.2.2.2.1, ())))))
def Qg.l0 (k : Nat) : Nat → Qg.l0.σ → Option Qg.l0.τ := Q15 (Qg.l0.r k)
def Qg.l0.T : StT := ⟨us 1 ++ .ptr 0 [] :: .ptr 1 [] :: .ptr 2 [] :: .dat (.int .i64) :: us 71, [.dat Qie, .pair (.dat (.int .u32)) (.pair (.nils) (.pair (.nils) (.dat Qiv))), .pair (.dat (.int .u32)) (.pair (.vsl 3) (.pair (.nils) (.dat Qiv))), .vec Qin]⟩
def Qg.l0.os : List Out := [⟨(.exit 0), [.mask [1, 2, 3], .auto 0], ⟨us 1 ++ .ptr 0 [] :: .ptr 1 [] :: .ptr 2 [] :: us 72, [.dat Qie, .pair (.dat (.int .u32)) (.pair (.nils) (.pair (.nils) (.dat Qiv))), .pair (.dat (.int .u32)) (.pair (.vsl 3) (.pair (.nils) (.dat Qiv))), .vec Qin]⟩⟩]
abbrev Qg.l1.σ : Type := Int × Qij × Qis × Qis × Qir × Qiu × Unit
abbrev Qg.l1.τ : Type := (Qis × Qis × Qir × Qiu × Unit)
def Qg.l1.r (k : Nat) {ρ : Type} (x : Qg.l1.σ) (kn : Qg.l1.σ → Option ρ) (ke : Qg.l1.τ → Option ρ) : Option ρ :=
 let v14 : Qiu := x.2.1.2.2.1
 let v15 : Int := (((List.length v14) : Nat) : Int)
 bif (decide (x.1 < v15)) then (let v16 : Qiu := x.2.1.2.2.1
 bif (decide (((0 : Int) ≤ x.1) ∧ (x.1 < (((List.length v16) : Nat) : Int)))) then (let v17 : Int := (List.getD v16 (Int.toNat x.1) ((0 : Int), (ByteArray.empty, ()))).1
 let v18 : Qiu := x.2.1.2.2.1
 bif (decide (((0 : Int) ≤ x.1) ∧ (x.1 < (((List.length v18) : Nat) : Int)))) then (let v19 : ByteArray := (List.getD v18 (Int.toNat x.1) ((0 : Int), (ByteArray.empty, ()))).2.1
 bif (Nat.ble (((List.length x.2.2.2.2.2.1) + (List.length (List.set (List.replicate 1 ((0 : Int), (ByteArray.empty, ()))) 0 (v17, (v19, ()))))) * 24) 140737488355328) then (let v20 : Int := (IntKind.wrap IntKind.i64 (x.1 + (1 : Int)))
 kn (v20, ((x.2.1.1, (x.2.1.2.1, (x.2.1.2.2.1, (x.2.1.2.2.2.1, ())))), ((x.2.2.1.1, ((), ((), (x.2.2.1.2.2.2.1, ())))), ((x.2.2.2.1.1, ((), ((), (x.2.2.2.1.2.2.2.1, ())))), (x.2.2.2.2.1, ((x.2.2.2.2.2.1 ++ (List.set (List.replicate 1 ((0 : Int), (ByteArray.empty, ()))) 0 (v17, (v19, ())))), ()))))))) else (none)) else (none)) else (none)) else (ke ((x.2.2.1.1, ((), ((), (x.2.2.1.2.2.2.1, ())))), ((x.2.2.2.1.1, ((), ((), (x.2.2.2.1.2.2.2.1, ())))), (x.2.2.2.2.1, (x.2.2.2.2.2.1, ())))))
def Qg.l1 (k : Nat) : Nat → Qg.l1.σ → Option Qg.l1.τ := Q15 (Qg.l1.r k)
def Qg.l1.T : StT := ⟨us 1 ++ .ptr 0 [] :: .ptr 1 [] :: .ptr 2 [] :: us 1 ++ .dat (.int .i64) :: us 70, [.dat Qie, .pair (.dat (.int .u32)) (.pair (.nils) (.pair (.nils) (.dat Qiv))), .pair (.dat (.int .u32)) (.pair (.vsl 3) (.pair (.vsl 4) (.dat Qiv))), .vec Qin, .vec (.pair (.int .u64) (.pair .str .unit))]⟩
def Qg.l1.os : List Out := [⟨(.exit 2), [.mask [2, 3], .auto 0], ⟨us 2 ++ .ptr 0 [] :: .ptr 1 [] :: us 72, [.pair (.dat (.int .u32)) (.pair (.nils) (.pair (.nils) (.dat Qiv))), .pair (.dat (.int .u32)) (.pair (.vsl 2) (.pair (.vsl 3) (.dat Qiv))), .vec Qin, .vec (.pair (.int .u64) (.pair .str .unit))]⟩⟩]
def Qg.c (k : Nat) {ρ : Type} (t : Qij) (K : Qil × Unit → Option ρ) : Option ρ :=
 let v0 : Int := t.1
 let v1 : Int := t.2.2.2.1
 (Qg.l0 k k ((0 : Int), ((t.1, (t.2.1, (t.2.2.1, (t.2.2.2.1, ())))), (((0 : Int), ((), ((), ((0 : Int), ())))), ((v0, ((), ((), (v1, ())))), ([], ())))))).bind fun t13 => (Qg.l1 k k ((0 : Int), ((t13.1.1, (t13.1.2.1, (t13.1.2.2.1, (t13.1.2.2.2.1, ())))), ((t13.2.1.1, ((), ((), (t13.2.1.2.2.2.1, ())))), ((t13.2.2.1.1, ((), ((), (t13.2.2.1.2.2.2.1, ())))), (t13.2.2.2.1, ([], ()))))))).bind fun t21 => K ((t21.2.1.1, (t21.2.2.1, (t21.2.2.2.1, (t21.2.1.2.2.2.1, ())))), ())
def Qg (k : Nat) (t : Qij) : Option (Qil × Unit) := Qg.c k t some
def Qg.tin : List Ty := [Qie]
def Qg.tout : List Ty := [Qig]
def Qg.sem (k : Nat) : QT := Q00 Qg.tin Qg.tout fun x => Qg k x.1
noncomputable def Qg.ctx (k : Nat) : Ctx := ⟨Tryz.prog, gam []⟩
theorem Qg.gok (k : Nat) : ∀ f, QI Tryz.prog f ((Qg.ctx k).Γ f) := Q01
theorem Qg.l0.round (k : Nat) : Q14 (Qg.ctx k) (QP (Func.code Tryz.f44) [1, 1, 0, 1, 0, 0]) (.nil) Qg.l0.T [.mask [1, 2, 3, 4], .auto 0] Qg.l0.os (Qg.l0.r k) := by
 intro ρ x kn ke; kernel_rfl
theorem Qg.l0.ok (k : Nat) : StOK 0 Tryz.prog (.loop (QP (Func.code Tryz.f44) [1, 1, 0, 1, 0, 0])) (Qp Qg.l0.T Qg.l0.os (Qg.l0 k k)) :=
 Q16 (C := Qg.ctx k) (Qg.gok k) Tryz.mix Q1.nil (by kernel_rfl) (by kernel_rfl) (by kernel_rfl) (Qg.l0.round k) k
theorem Qg.l1.round (k : Nat) : Q14 (Qg.ctx k) (QP (Func.code Tryz.f44) [1, 1, 1, 0, 1, 0, 0]) (.nil) Qg.l1.T [.mask [1, 2, 3, 5], .auto 0] Qg.l1.os (Qg.l1.r k) := by
 intro ρ x kn ke; kernel_rfl
theorem Qg.l1.ok (k : Nat) : StOK 0 Tryz.prog (.loop (QP (Func.code Tryz.f44) [1, 1, 1, 0, 1, 0, 0])) (Qp Qg.l1.T Qg.l1.os (Qg.l1 k k)) :=
 Q16 (C := Qg.ctx k) (Qg.gok k) Tryz.mix Q1.nil (by kernel_rfl) (by kernel_rfl) (by kernel_rfl) (Qg.l1.round k) k
def Qg.ann (k : Nat) : Ann := .node [] none (.nil) (.node [] none (.nil) (.node [] none (.node [] none (.nil) (.node [] none (.node [.mask [1, 2, 3, 4], .auto 0, .own (.blk 2 [1]) Qin] (some (Qp Qg.l0.T Qg.l0.os (Qg.l0 k k))) .nil .nil) (.nil))) (.node [] none (.node [] none (.nil) (.node [] none (.node [.mask [1, 2, 3, 5], .auto 0, .own (.blk 2 [2]) (.pair (.int .u64) (.pair .str .unit))] (some (Qp Qg.l1.T Qg.l1.os (Qg.l1 k k))) .nil .nil) (.nil))) (.nil))))
theorem Qg.body (k : Nat) : Q0W (Qg.ctx k) Tryz.f44 (Func.code Tryz.f44) (Qg.ann k) Qg.tin Qg.tout (fun x K => Qg.c k x.1 K) := by
 intro ρ x K; kernel_rfl
theorem Qg.sem_ok (k : Nat) : QI Tryz.prog 44 (Qg.sem k) :=
 QG (C := Qg.ctx k) (Qg.gok k) Tryz.mix (c := Func.code Tryz.f44) (ann := Qg.ann k) (tin := Qg.tin) (tout := Qg.tout) (fun x K => Qg.c k x.1 K) Tryz.func44 (by kernel_rfl) (by kernel_rfl) (Q1.seq Q1.nil (Q1.seq Q1.nil (Q1.seq (Q1.seq Q1.nil (Q1.block (Q1.loop (by kernel_rfl) (Qg.l0.ok k)))) (Q1.seq (Q1.seq Q1.nil (Q1.block (Q1.loop (by kernel_rfl) (Qg.l1.ok k)))) Q1.nil)))) (Qg.body k)
abbrev Qv.l0.σ : Type := Int × Qid × Qio × Qio × Qik × Unit
abbrev Qv.l0.τ : Type := (Qio × Qio × Qik × Unit)
def Qv.l0.r (k : Nat) {ρ : Type} (x : Qv.l0.σ) (kn : Qv.l0.σ → Option ρ) (ke : Qv.l0.τ → Option ρ) : Option ρ :=
 let v1 : Qii := x.2.1.2.1
 let v2 : Int := (((List.length v1) : Nat) : Int)
 bif (decide (x.1 < v2)) then (let v3 : Qii := x.2.1.2.1
 bif (decide (((0 : Int) ≤ x.1) ∧ (x.1 < (((List.length v3) : Nat) : Int)))) then ((Qg k ((List.getD v3 (Int.toNat x.1) ((0 : Int), ([], ([], ((0 : Int), ()))))).1, ((List.getD v3 (Int.toNat x.1) ((0 : Int), ([], ([], ((0 : Int), ()))))).2.1, ((List.getD v3 (Int.toNat x.1) ((0 : Int), ([], ([], ((0 : Int), ()))))).2.2.1, ((List.getD v3 (Int.toNat x.1) ((0 : Int), ([], ([], ((0 : Int), ()))))).2.2.2.1, ()))))).bind fun t4 => bif (Nat.ble (((List.length x.2.2.2.2.1) + (List.length (List.set (List.replicate 1 ((0 : Int), ([], ([], ((0 : Int), ()))))) 0 (t4.1.1, (t4.1.2.1, (t4.1.2.2.1, (t4.1.2.2.2.1, ()))))))) * 64) 140737488355328) then (let v5 : Int := (IntKind.wrap IntKind.i64 (x.1 + (1 : Int)))
 kn (v5, (((x.2.1.1.1, (x.2.1.1.2.1, (x.2.1.1.2.2.1, (x.2.1.1.2.2.2.1, (x.2.1.1.2.2.2.2.1, (x.2.1.1.2.2.2.2.2.1, ())))))), (x.2.1.2.1, ())), (((x.2.2.1.1.1, (x.2.2.1.1.2.1, (x.2.2.1.1.2.2.1, (x.2.2.1.1.2.2.2.1, (x.2.2.1.1.2.2.2.2.1, (x.2.2.1.1.2.2.2.2.2.1, ())))))), ((), ())), (((x.2.2.2.1.1.1, (x.2.2.2.1.1.2.1, (x.2.2.2.1.1.2.2.1, (x.2.2.2.1.1.2.2.2.1, (x.2.2.2.1.1.2.2.2.2.1, (x.2.2.2.1.1.2.2.2.2.2.1, ())))))), ((), ())), ((x.2.2.2.2.1 ++ (List.set (List.replicate 1 ((0 : Int), ([], ([], ((0 : Int), ()))))) 0 (t4.1.1, (t4.1.2.1, (t4.1.2.2.1, (t4.1.2.2.2.1, ())))))), ())))))) else (none)) else (none)) else (ke (((x.2.2.1.1.1, (x.2.2.1.1.2.1, (x.2.2.1.1.2.2.1, (x.2.2.1.1.2.2.2.1, (x.2.2.1.1.2.2.2.2.1, (x.2.2.1.1.2.2.2.2.2.1, ())))))), ((), ())), (((x.2.2.2.1.1.1, (x.2.2.2.1.1.2.1, (x.2.2.2.1.1.2.2.1, (x.2.2.2.1.1.2.2.2.1, (x.2.2.2.1.1.2.2.2.2.1, (x.2.2.2.1.1.2.2.2.2.2.1, ())))))), ((), ())), (x.2.2.2.2.1, ()))))
def Qv.l0 (k : Nat) : Nat → Qv.l0.σ → Option Qv.l0.τ := Q15 (Qv.l0.r k)
def Qv.l0.T : StT := ⟨us 1 ++ .ptr 0 [] :: .ptr 1 [] :: .ptr 2 [] :: .dat (.int .i64) :: us 23, [.dat Qib, .pair (.dat Qih) (.pair (.nils) (.dat .unit)), .pair (.dat Qih) (.pair (.vsl 3) (.dat .unit)), .vec Qig]⟩
def Qv.l0.os : List Out := [⟨(.exit 0), [.mask [2, 3], .auto 0], ⟨us 2 ++ .ptr 0 [] :: .ptr 1 [] :: us 24, [.pair (.dat Qih) (.pair (.nils) (.dat .unit)), .pair (.dat Qih) (.pair (.vsl 2) (.dat .unit)), .vec Qig]⟩⟩]
def Qv.c (k : Nat) {ρ : Type} (b : Qid) (K : Qif × Unit → Option ρ) : Option ρ :=
 (Q0j k (b.1.1, (b.1.2.1, (b.1.2.2.1, (b.1.2.2.2.1, (b.1.2.2.2.2.1, (b.1.2.2.2.2.2.1, ()))))))).bind fun t0 => (Qv.l0 k k ((0 : Int), (((b.1.1, (b.1.2.1, (b.1.2.2.1, (b.1.2.2.2.1, (b.1.2.2.2.2.1, (b.1.2.2.2.2.2.1, ())))))), (b.2.1, ())), ((((0 : Int), ((List.replicate 32 (0 : Int)), ((List.replicate 32 (0 : Int)), ((0 : Int), ((0 : Int), ((0 : Int), ())))))), ((), ())), (((t0.1.1, (t0.1.2.1, (t0.1.2.2.1, (t0.1.2.2.2.1, (t0.1.2.2.2.2.1, (t0.1.2.2.2.2.2.1, ())))))), ((), ())), ([], ())))))).bind fun t6 => K (((t6.2.1.1.1, (t6.2.1.1.2.1, (t6.2.1.1.2.2.1, (t6.2.1.1.2.2.2.1, (t6.2.1.1.2.2.2.2.1, (t6.2.1.1.2.2.2.2.2.1, ())))))), (t6.2.2.1, ())), ())
def Qv (k : Nat) (b : Qid) : Option (Qif × Unit) := Qv.c k b some
def Qv.tin : List Ty := [Qib]
def Qv.tout : List Ty := [Qic]
def Qv.sem (k : Nat) : QT := Q00 Qv.tin Qv.tout fun x => Qv k x.1
noncomputable def Qv.ctx (k : Nat) : Ctx := ⟨Tryz.prog, gam [(11, (Q0j.sem k)), (44, (Qg.sem k))]⟩
theorem Qv.gok (k : Nat) : ∀ f, QI Tryz.prog f ((Qv.ctx k).Γ f) := (Ql (Q0j.sem_ok k) (Ql (Qg.sem_ok k) Q01))
theorem Qv.l0.round (k : Nat) : Q14 (Qv.ctx k) (QP (Func.code Tryz.f16) [1, 1, 0, 1, 0, 0]) (.nil) Qv.l0.T [.mask [1, 2, 3, 4], .auto 0] Qv.l0.os (Qv.l0.r k) := by
 intro ρ x kn ke; kernel_rfl
theorem Qv.l0.ok (k : Nat) : StOK 0 Tryz.prog (.loop (QP (Func.code Tryz.f16) [1, 1, 0, 1, 0, 0])) (Qp Qv.l0.T Qv.l0.os (Qv.l0 k k)) :=
 Q16 (C := Qv.ctx k) (Qv.gok k) Tryz.mix Q1.nil (by kernel_rfl) (by kernel_rfl) (by kernel_rfl) (Qv.l0.round k) k
def Qv.ann (k : Nat) : Ann := .node [] none (.nil) (.node [] none (.nil) (.node [] none (.node [] none (.nil) (.node [] none (.node [.mask [1, 2, 3, 4], .auto 0, .own (.blk 2 [1]) Qig] (some (Qp Qv.l0.T Qv.l0.os (Qv.l0 k k))) .nil .nil) (.nil))) (.nil)))
theorem Qv.body (k : Nat) : Q0W (Qv.ctx k) Tryz.f16 (Func.code Tryz.f16) (Qv.ann k) Qv.tin Qv.tout (fun x K => Qv.c k x.1 K) := by
 intro ρ x K; kernel_rfl
theorem Qv.sem_ok (k : Nat) : QI Tryz.prog 16 (Qv.sem k) :=
 QG (C := Qv.ctx k) (Qv.gok k) Tryz.mix (c := Func.code Tryz.f16) (ann := Qv.ann k) (tin := Qv.tin) (tout := Qv.tout) (fun x K => Qv.c k x.1 K) Tryz.func16 (by kernel_rfl) (by kernel_rfl) (Q1.seq Q1.nil (Q1.seq Q1.nil (Q1.seq (Q1.seq Q1.nil (Q1.block (Q1.loop (by kernel_rfl) (Qv.l0.ok k)))) Q1.nil))) (Qv.body k)
def Q0e.c (k : Nat) {ρ : Type} (n : Int) (K : ByteArray × Unit → Option ρ) : Option ρ :=
 bif (decide (n < (253 : Int))) then ((Qo k n (1 : Int)).bind fun t0 => K (t0.1, ())) else (bif (decide (n ≤ (65535 : Int))) then ((Qo k n (2 : Int)).bind fun t1 => bif (Nat.ble (1 + (ByteArray.size t1.1)) 9223372036854775807) then (let v2 : ByteArray := ((⟨(List.toArray [253])⟩ : ByteArray) ++ t1.1)
 K (v2, ())) else (none)) else (bif (decide (n ≤ (4294967295 : Int))) then ((Qo k n (4 : Int)).bind fun t3 => bif (Nat.ble (1 + (ByteArray.size t3.1)) 9223372036854775807) then (let v4 : ByteArray := ((⟨(List.toArray [254])⟩ : ByteArray) ++ t3.1)
 K (v4, ())) else (none)) else ((Qo k n (8 : Int)).bind fun t5 => bif (Nat.ble (1 + (ByteArray.size t5.1)) 9223372036854775807) then (let v6 : ByteArray := ((⟨(List.toArray [255])⟩ : ByteArray) ++ t5.1)
 K (v6, ())) else (none))))
def Q0e (k : Nat) (n : Int) : Option (ByteArray × Unit) := Q0e.c k n some
def Q0e.tin : List Ty := [(.int .u64)]
def Q0e.tout : List Ty := [.str]
def Q0e.sem (k : Nat) : QT := Q00 Q0e.tin Q0e.tout fun x => Q0e k x.1
noncomputable def Q0e.ctx (k : Nat) : Ctx := ⟨Tryz.prog, gam [(36, (Qo.sem k))]⟩
theorem Q0e.gok (k : Nat) : ∀ f, QI Tryz.prog f ((Q0e.ctx k).Γ f) := (Ql (Qo.sem_ok k) Q01)
def Q0e.ann (k : Nat) : Ann := .nil
theorem Q0e.body (k : Nat) : Q0W (Q0e.ctx k) Tryz.f45 (Func.code Tryz.f45) (Q0e.ann k) Q0e.tin Q0e.tout (fun x K => Q0e.c k x.1 K) := by
 intro ρ x K; kernel_rfl
theorem Q0e.sem_ok (k : Nat) : QI Tryz.prog 45 (Q0e.sem k) :=
 QG (C := Q0e.ctx k) (Q0e.gok k) Tryz.mix (c := Func.code Tryz.f45) (ann := Q0e.ann k) (tin := Q0e.tin) (tout := Q0e.tout) (fun x K => Q0e.c k x.1 K) Tryz.func45 (by kernel_rfl) (by kernel_rfl) Q1.nil (Q0e.body k)
abbrev Qj.l0.σ : Type := ByteArray × Int × Qif × Unit
abbrev Qj.l0.τ : Type := (ByteArray × Unit)
def Qj.l0.r (k : Nat) {ρ : Type} (x : Qj.l0.σ) (kn : Qj.l0.σ → Option ρ) (ke : Qj.l0.τ → Option ρ) : Option ρ :=
 let v5 : Qik := x.2.2.1.2.1
 let v6 : Int := (((List.length v5) : Nat) : Int)
 bif (decide (x.2.1 < v6)) then (let v7 : Qik := x.2.2.1.2.1
 bif (decide (((0 : Int) ≤ x.2.1) ∧ (x.2.1 < (((List.length v7) : Nat) : Int)))) then ((Q9 k ((List.getD v7 (Int.toNat x.2.1) ((0 : Int), ([], ([], ((0 : Int), ()))))).1, ((List.getD v7 (Int.toNat x.2.1) ((0 : Int), ([], ([], ((0 : Int), ()))))).2.1, ((List.getD v7 (Int.toNat x.2.1) ((0 : Int), ([], ([], ((0 : Int), ()))))).2.2.1, ((List.getD v7 (Int.toNat x.2.1) ((0 : Int), ([], ([], ((0 : Int), ()))))).2.2.2.1, ()))))).bind fun t8 => bif (Nat.ble ((ByteArray.size x.1) + (ByteArray.size t8.1)) 9223372036854775807) then (let v9 : ByteArray := (x.1 ++ t8.1)
 let v10 : Int := (IntKind.wrap IntKind.i64 (x.2.1 + (1 : Int)))
 kn (v9, (v10, (((x.2.2.1.1.1, (x.2.2.1.1.2.1, (x.2.2.1.1.2.2.1, (x.2.2.1.1.2.2.2.1, (x.2.2.1.1.2.2.2.2.1, (x.2.2.1.1.2.2.2.2.2.1, ())))))), (x.2.2.1.2.1, ())), ())))) else (none)) else (none)) else (ke (x.1, ()))
def Qj.l0 (k : Nat) : Nat → Qj.l0.σ → Option Qj.l0.τ := Q15 (Qj.l0.r k)
def Qj.l0.T : StT := ⟨us 1 ++ .ptr 0 [] :: us 1 ++ .dat .str :: .dat (.int .i64) :: us 25, [.dat Qic]⟩
def Qj.l0.os : List Out := [⟨(.exit 0), [.mask [3], .auto 0], ⟨us 3 ++ .dat .str :: us 26, []⟩⟩]
def Qj.c (k : Nat) {ρ : Type} (b : Qif) (K : ByteArray × Unit → Option ρ) : Option ρ :=
 (Q08 k (b.1.1, (b.1.2.1, (b.1.2.2.1, (b.1.2.2.2.1, (b.1.2.2.2.2.1, (b.1.2.2.2.2.2.1, ()))))))).bind fun t0 => let v1 : Qik := b.2.1
 let v2 : Int := (((List.length v1) : Nat) : Int)
 (Q0e k (IntKind.wrap IntKind.u64 v2)).bind fun t3 => bif (Nat.ble ((ByteArray.size t0.1) + (ByteArray.size t3.1)) 9223372036854775807) then (let v4 : ByteArray := (t0.1 ++ t3.1)
 (Qj.l0 k k (v4, ((0 : Int), (((b.1.1, (b.1.2.1, (b.1.2.2.1, (b.1.2.2.2.1, (b.1.2.2.2.2.1, (b.1.2.2.2.2.2.1, ())))))), (b.2.1, ())), ())))).bind fun t11 => K (t11.1, ())) else (none)
def Qj (k : Nat) (b : Qif) : Option (ByteArray × Unit) := Qj.c k b some
def Qj.tin : List Ty := [Qic]
def Qj.tout : List Ty := [.str]
def Qj.sem (k : Nat) : QT := Q00 Qj.tin Qj.tout fun x => Qj k x.1
noncomputable def Qj.ctx (k : Nat) : Ctx := ⟨Tryz.prog, gam [(10, (Q08.sem k)), (45, (Q0e.sem k)), (46, (Q9.sem k))]⟩
theorem Qj.gok (k : Nat) : ∀ f, QI Tryz.prog f ((Qj.ctx k).Γ f) := (Ql (Q08.sem_ok k) (Ql (Q0e.sem_ok k) (Ql (Q9.sem_ok k) Q01)))
theorem Qj.l0.round (k : Nat) : Q14 (Qj.ctx k) (QP (Func.code Tryz.f17) [1, 1, 0, 1, 0, 0]) (.nil) Qj.l0.T [.mask [1, 3, 4], .auto 0] Qj.l0.os (Qj.l0.r k) := by
 intro ρ x kn ke; kernel_rfl
theorem Qj.l0.ok (k : Nat) : StOK 0 Tryz.prog (.loop (QP (Func.code Tryz.f17) [1, 1, 0, 1, 0, 0])) (Qp Qj.l0.T Qj.l0.os (Qj.l0 k k)) :=
 Q16 (C := Qj.ctx k) (Qj.gok k) Tryz.mix Q1.nil (by kernel_rfl) (by kernel_rfl) (by kernel_rfl) (Qj.l0.round k) k
def Qj.ann (k : Nat) : Ann := .node [] none (.nil) (.node [] none (.nil) (.node [] none (.node [] none (.nil) (.node [] none (.node [.mask [1, 3, 4], .auto 0] (some (Qp Qj.l0.T Qj.l0.os (Qj.l0 k k))) .nil .nil) (.nil))) (.nil)))
theorem Qj.body (k : Nat) : Q0W (Qj.ctx k) Tryz.f17 (Func.code Tryz.f17) (Qj.ann k) Qj.tin Qj.tout (fun x K => Qj.c k x.1 K) := by
 intro ρ x K; kernel_rfl
theorem Qj.sem_ok (k : Nat) : QI Tryz.prog 17 (Qj.sem k) :=
 QG (C := Qj.ctx k) (Qj.gok k) Tryz.mix (c := Func.code Tryz.f17) (ann := Qj.ann k) (tin := Qj.tin) (tout := Qj.tout) (fun x K => Qj.c k x.1 K) Tryz.func17 (by kernel_rfl) (by kernel_rfl) (Q1.seq Q1.nil (Q1.seq Q1.nil (Q1.seq (Q1.seq Q1.nil (Q1.block (Q1.loop (by kernel_rfl) (Qj.l0.ok k)))) Q1.nil))) (Qj.body k)
abbrev Qs.l0.σ : Type := Int × Qif × Unit
abbrev Qs.l0.τ : Type := (Int × Unit) ⊕ (Unit)
def Qs.l0.r (k : Nat) {ρ : Type} (x : Qs.l0.σ) (kn : Qs.l0.σ → Option ρ) (ke : Qs.l0.τ → Option ρ) : Option ρ :=
 let v0 : Qik := x.2.1.2.1
 let v1 : Int := (((List.length v0) : Nat) : Int)
 bif (decide (x.1 < v1)) then (let v2 : Qik := x.2.1.2.1
 bif (decide (((0 : Int) ≤ x.1) ∧ (x.1 < (((List.length v2) : Nat) : Int)))) then ((Qd k ((List.getD v2 (Int.toNat x.1) ((0 : Int), ([], ([], ((0 : Int), ()))))).1, ((List.getD v2 (Int.toNat x.1) ((0 : Int), ([], ([], ((0 : Int), ()))))).2.1, ((List.getD v2 (Int.toNat x.1) ((0 : Int), ([], ([], ((0 : Int), ()))))).2.2.1, ((List.getD v2 (Int.toNat x.1) ((0 : Int), ([], ([], ((0 : Int), ()))))).2.2.2.1, ()))))).bind fun t3 => bif (t3.1 != (0 : Int)) then (ke (.inl (t3.1, ()))) else (let v4 : Int := (IntKind.wrap IntKind.i64 (x.1 + (1 : Int)))
 kn (v4, (((x.2.1.1.1, (x.2.1.1.2.1, (x.2.1.1.2.2.1, (x.2.1.1.2.2.2.1, (x.2.1.1.2.2.2.2.1, (x.2.1.1.2.2.2.2.2.1, ())))))), (x.2.1.2.1, ())), ())))) else (none)) else (ke (.inr ()))
def Qs.l0 (k : Nat) : Nat → Qs.l0.σ → Option Qs.l0.τ := Q15 (Qs.l0.r k)
def Qs.l0.T : StT := ⟨us 1 ++ .ptr 0 [] :: us 1 ++ .dat (.int .i64) :: us 17, [.dat Qic]⟩
def Qs.l0.os : List Out := [⟨.ret, [.mask [2], .auto 0], ⟨us 2 ++ .dat (.int .i64) :: us 18, []⟩⟩, ⟨(.exit 0), [.mask [], .auto 0], ⟨us 21, []⟩⟩]
def Qs.c (k : Nat) {ρ : Type} (b : Qif) (K : Int × Unit → Option ρ) : Option ρ :=
 (Qs.l0 k k ((0 : Int), (((b.1.1, (b.1.2.1, (b.1.2.2.1, (b.1.2.2.2.1, (b.1.2.2.2.2.1, (b.1.2.2.2.2.2.1, ())))))), (b.2.1, ())), ()))).bind fun t5 => (match t5 with | .inl t6 => (K (t6.1, ())) | .inr (t7) => (K ((0 : Int), ())))
def Qs (k : Nat) (b : Qif) : Option (Int × Unit) := Qs.c k b some
def Qs.tin : List Ty := [Qic]
def Qs.tout : List Ty := [(.int .i64)]
def Qs.sem (k : Nat) : QT := Q00 Qs.tin Qs.tout fun x => Qs k x.1
noncomputable def Qs.ctx (k : Nat) : Ctx := ⟨Tryz.prog, gam [(47, (Qd.sem k))]⟩
theorem Qs.gok (k : Nat) : ∀ f, QI Tryz.prog f ((Qs.ctx k).Γ f) := (Ql (Qd.sem_ok k) Q01)
theorem Qs.l0.round (k : Nat) : Q14 (Qs.ctx k) (QP (Func.code Tryz.f18) [1, 0, 1, 0, 0]) (.nil) Qs.l0.T [.mask [1, 3], .auto 0] Qs.l0.os (Qs.l0.r k) := by
 intro ρ x kn ke; kernel_rfl
theorem Qs.l0.ok (k : Nat) : StOK 0 Tryz.prog (.loop (QP (Func.code Tryz.f18) [1, 0, 1, 0, 0])) (Qp Qs.l0.T Qs.l0.os (Qs.l0 k k)) :=
 Q16 (C := Qs.ctx k) (Qs.gok k) Tryz.mix Q1.nil (by kernel_rfl) (by kernel_rfl) (by kernel_rfl) (Qs.l0.round k) k
def Qs.ann (k : Nat) : Ann := .node [] none (.nil) (.node [] none (.node [] none (.nil) (.node [] none (.node [.mask [1, 3], .auto 0] (some (Qp Qs.l0.T Qs.l0.os (Qs.l0 k k))) .nil .nil) (.nil))) (.nil))
theorem Qs.body (k : Nat) : Q0W (Qs.ctx k) Tryz.f18 (Func.code Tryz.f18) (Qs.ann k) Qs.tin Qs.tout (fun x K => Qs.c k x.1 K) := by
 intro ρ x K; kernel_rfl
theorem Qs.sem_ok (k : Nat) : QI Tryz.prog 18 (Qs.sem k) :=
 QG (C := Qs.ctx k) (Qs.gok k) Tryz.mix (c := Func.code Tryz.f18) (ann := Qs.ann k) (tin := Qs.tin) (tout := Qs.tout) (fun x K => Qs.c k x.1 K) Tryz.func18 (by kernel_rfl) (by kernel_rfl) (Q1.seq Q1.nil (Q1.seq (Q1.seq Q1.nil (Q1.block (Q1.loop (by kernel_rfl) (Qs.l0.ok k)))) Q1.nil)) (Qs.body k)
abbrev QB.p0.σ : Type := Int × Int × Int × Int × Qit × Unit
abbrev QB.p0.τ : Type := (Int × Int × Int × Qit × Unit)
def QB.p0.r (k : Nat) {ρ : Type} (x : QB.p0.σ) (K : QB.p0.τ → Option ρ) : Option ρ :=
 bif (x.2.2.2.1 == (0 : Int)) then (bif (decide (x.2.1 > x.1)) then (K (x.2.1, (x.2.2.1, ((5 : Int), ((x.2.2.2.2.1.1, (x.2.2.2.2.1.2.1, (x.2.2.2.2.1.2.2.1, ()))), ()))))) else (K (x.2.1, (x.2.2.1, (x.2.2.2.1, ((x.2.2.2.2.1.1, (x.2.2.2.2.1.2.1, (x.2.2.2.2.1.2.2.1, ()))), ())))))) else (K (x.2.1, (x.2.2.1, (x.2.2.2.1, ((x.2.2.2.2.1.1, (x.2.2.2.2.1.2.1, (x.2.2.2.2.1.2.2.1, ()))), ())))))
def QB.p0 (k : Nat) (x : QB.p0.σ) : Option QB.p0.τ := QB.p0.r k x some
def QB.p0.T : StT := ⟨.ptr 0 [] :: .dat (.int .u64) :: us 3 ++ .dat (.int .u64) :: .dat (.int .i64) :: .dat (.int .i64) :: us 34, [.dat Qiq]⟩
def QB.p0.os : List Out := [⟨.normal, [.mask [0, 5, 6, 7], .auto 1], ⟨.ptr 0 [] :: us 4 ++ .dat (.int .u64) :: .dat (.int .i64) :: .dat (.int .i64) :: us 34, [.dat Qiq]⟩⟩]
abbrev QB.τ : Type := (Int × Qit × Unit)
def QB.c (k : Nat) {ρ : Type} (most : Int) (b0 : Qit) (K : QB.τ → Option ρ) : Option ρ :=
 (Q0n k (b0.1, (b0.2.1, (b0.2.2.1, ())))).bind fun t0 => bif (t0.1 != (0 : Int)) then (K ((0 : Int), ((t0.2.1.1, (t0.2.1.2.1, (t0.2.1.2.2.1, ()))), ()))) else (let v1 : ByteArray := t0.2.1.1
 let v2 : Int := t0.2.1.2.1
 (QN k v1 v2).bind fun t3 => let v4 : Int := t3.1
 let v5 : Int := t3.2.1
 let v6 : Int := t3.2.2.1
 (QB.p0 k (most, (v4, (v5, (v6, ((t0.2.1.1, (t0.2.1.2.1, (t0.2.1.2.2.1, ()))), ())))))).bind fun t7 => bif (t7.2.2.1 != (0 : Int)) then (K ((0 : Int), ((t7.2.2.2.1.1, (t7.2.2.2.1.2.1, (t7.2.2.1, ()))), ()))) else (K (t7.1, ((t7.2.2.2.1.1, (t7.2.1, (t7.2.2.2.1.2.2.1, ()))), ()))))
def QB (k : Nat) (most : Int) (b0 : Qit) : Option QB.τ := QB.c k most b0 some
def QB.T : Q27 := ⟨[.ptr 0 [], .dat (.int .u64)], [.dat Qiq], 1⟩
def QB.os : List Out := [⟨.ret, [.freeze (.slot 0), .auto 1], ⟨[.dat (.int .u64)], [.dat Qiq]⟩⟩]
def QB.sem (k : Nat) : QT := Q2j QB.T QB.os fun x => QB k x.1 x.2.1
noncomputable def QB.ctx (k : Nat) : Ctx := ⟨Tryz.prog, gam [(30, (Q0n.sem k)), (78, (QN.sem k))]⟩
theorem QB.gok (k : Nat) : ∀ f, QI Tryz.prog f ((QB.ctx k).Γ f) := (Ql (Q0n.sem_ok k) (Ql (QN.sem_ok k) Q01))
theorem QB.p0.is (k : Nat) : Q22 (QB.ctx k) (QP (Func.code Tryz.f48) [1, 1, 1, 0]) (.nil) QB.p0.T QB.p0.os (QB.p0.r k) := by
 intro ρ x K; kernel_rfl
theorem QB.p0.ok (k : Nat) : StOK 1 Tryz.prog (QP (Func.code Tryz.f48) [1, 1, 1, 0]) (Qp QB.p0.T QB.p0.os (QB.p0 k)) :=
 Q1X (C := QB.ctx k) (T := QB.p0.T) (os := QB.p0.os) (QB.gok k) Tryz.mix (fun x K => QB.p0.r k x K) Q1.nil (by kernel_rfl) (by kernel_rfl) (QB.p0.is k)
def QB.ann (k : Nat) : Ann := .node [] none (.nil) (.node [] none (.nil) (.node [] none (.nil) (.node [] none (.node [.mask [0, 1, 5, 6, 7], .auto 1] (some (Qp QB.p0.T QB.p0.os (QB.p0 k))) .nil .nil) (.nil))))
theorem QB.body (k : Nat) : Q2k (QB.ctx k) Tryz.f48 (Func.code Tryz.f48) (QB.ann k) QB.T QB.os (fun x K => QB.c k x.1 x.2.1 K) := by
 intro ρ x K; kernel_rfl
theorem QB.sem_ok (k : Nat) : QI Tryz.prog 48 (QB.sem k) :=
 Q1G (C := QB.ctx k) (QB.gok k) Tryz.mix (c := Func.code Tryz.f48) (ann := QB.ann k) (T := QB.T) (os := QB.os) (fun x K => QB.c k x.1 x.2.1 K) Tryz.func48 (by kernel_rfl) (by kernel_rfl) (Q1.seq Q1.nil (Q1.seq Q1.nil (Q1.seq Q1.nil (Q1.seq (Q1.loop (by kernel_rfl) (QB.p0.ok k)) Q1.nil)))) (QB.body k) (by kernel_rfl) (by kernel_rfl) (by kernel_rfl)
abbrev Q0Y.τ : Type := (Int × Qit × Unit)
def Q0Y.c (k : Nat) {ρ : Type} (b0 : Qit) (K : Q0Y.τ → Option ρ) : Option ρ :=
 let v0 : Int := b0.2.1
 K (v0, ((b0.1, (b0.2.1, (b0.2.2.1, ()))), ()))
def Q0Y (k : Nat) (b0 : Qit) : Option Q0Y.τ := Q0Y.c k b0 some
def Q0Y.T : Q27 := ⟨[.ptr 0 []], [.dat Qiq], 1⟩
def Q0Y.os : List Out := [⟨.ret, [.freeze (.slot 0), .auto 1], ⟨[.dat (.int .i64)], [.dat Qiq]⟩⟩]
def Q0Y.sem (k : Nat) : QT := Q2j Q0Y.T Q0Y.os fun x => Q0Y k x.1
noncomputable def Q0Y.ctx (k : Nat) : Ctx := ⟨Tryz.prog, gam []⟩
theorem Q0Y.gok (k : Nat) : ∀ f, QI Tryz.prog f ((Q0Y.ctx k).Γ f) := Q01
def Q0Y.ann (k : Nat) : Ann := .nil
theorem Q0Y.body (k : Nat) : Q2k (Q0Y.ctx k) Tryz.f49 (Func.code Tryz.f49) (Q0Y.ann k) Q0Y.T Q0Y.os (fun x K => Q0Y.c k x.1 K) := by
 intro ρ x K; kernel_rfl
theorem Q0Y.sem_ok (k : Nat) : QI Tryz.prog 49 (Q0Y.sem k) :=
 Q1G (C := Q0Y.ctx k) (Q0Y.gok k) Tryz.mix (c := Func.code Tryz.f49) (ann := Q0Y.ann k) (T := Q0Y.T) (os := Q0Y.os) (fun x K => Q0Y.c k x.1 K) Tryz.func49 (by kernel_rfl) (by kernel_rfl) Q1.nil (Q0Y.body k) (by kernel_rfl) (by kernel_rfl) (by kernel_rfl)
abbrev QU.l0.σ : Type := ByteArray × Int × Int × Int × Qio × Qio × Qii × Unit
abbrev QU.l0.τ : Type := Qim ⊕ (ByteArray × Int × Qio × Qio × Qii × Unit)
def QU.l0.r (k : Nat) {ρ : Type} (x : QU.l0.σ) (kn : QU.l0.σ → Option ρ) (ke : QU.l0.τ → Option ρ) : Option ρ :=
 bif (decide (x.2.2.2.1 < x.2.2.1)) then ((Qw k x.1 x.2.1).bind fun t9 => let v10 : Int := t9.2.1
 let v11 : Int := t9.2.2.1
 bif (v11 != (0 : Int)) then (ke (.inl (x.2.1, (v11, ((((0 : Int), ((List.replicate 32 (0 : Int)), ((List.replicate 32 (0 : Int)), ((0 : Int), ((0 : Int), ((0 : Int), ())))))), ((), ())), ()))))) else (bif (Nat.ble (((List.length x.2.2.2.2.2.2.1) + (List.length (List.set (List.replicate 1 ((0 : Int), ([], ([], ((0 : Int), ()))))) 0 (t9.1.1, (t9.1.2.1, (t9.1.2.2.1, (t9.1.2.2.2.1, ()))))))) * 64) 140737488355328) then (let v12 : Int := (IntKind.wrap IntKind.u64 (x.2.2.2.1 + (1 : Int)))
 kn (x.1, (v10, (x.2.2.1, (v12, (((x.2.2.2.2.1.1.1, (x.2.2.2.2.1.1.2.1, (x.2.2.2.2.1.1.2.2.1, (x.2.2.2.2.1.1.2.2.2.1, (x.2.2.2.2.1.1.2.2.2.2.1, (x.2.2.2.2.1.1.2.2.2.2.2.1, ())))))), ((), ())), (((x.2.2.2.2.2.1.1.1, (x.2.2.2.2.2.1.1.2.1, (x.2.2.2.2.2.1.1.2.2.1, (x.2.2.2.2.2.1.1.2.2.2.1, (x.2.2.2.2.2.1.1.2.2.2.2.1, (x.2.2.2.2.2.1.1.2.2.2.2.2.1, ())))))), ((), ())), ((x.2.2.2.2.2.2.1 ++ (List.set (List.replicate 1 ((0 : Int), ([], ([], ((0 : Int), ()))))) 0 (t9.1.1, (t9.1.2.1, (t9.1.2.2.1, (t9.1.2.2.2.1, ())))))), ())))))))) else (none))) else (ke (.inr (x.1, (x.2.1, (((x.2.2.2.2.1.1.1, (x.2.2.2.2.1.1.2.1, (x.2.2.2.2.1.1.2.2.1, (x.2.2.2.2.1.1.2.2.2.1, (x.2.2.2.2.1.1.2.2.2.2.1, (x.2.2.2.2.1.1.2.2.2.2.2.1, ())))))), ((), ())), (((x.2.2.2.2.2.1.1.1, (x.2.2.2.2.2.1.1.2.1, (x.2.2.2.2.2.1.1.2.2.1, (x.2.2.2.2.2.1.1.2.2.2.1, (x.2.2.2.2.2.1.1.2.2.2.2.1, (x.2.2.2.2.2.1.1.2.2.2.2.2.1, ())))))), ((), ())), (x.2.2.2.2.2.2.1, ())))))))
def QU.l0 (k : Nat) : Nat → QU.l0.σ → Option QU.l0.τ := Q15 (QU.l0.r k)
def QU.l0.T : StT := ⟨.dat .str :: us 1 ++ .ptr 0 [] :: us 6 ++ .dat (.int .i64) :: .ptr 1 [] :: us 33 ++ .dat (.int .u64) :: .dat (.int .u64) :: us 28, [.pair (.dat Qih) (.pair (.nils) (.dat .unit)), .pair (.dat Qih) (.pair (.vsl 2) (.dat .unit)), .vec Qie]⟩
def QU.l0.os : List Out := [⟨.ret, [.mask [2, 3, 4], .auto 0], ⟨us 2 ++ .ptr 0 [] :: .dat (.int .i64) :: .dat (.int .i64) :: us 69, [.pair (.dat Qih) (.pair (.nils) (.dat .unit))]⟩⟩, ⟨(.exit 0), [.mask [0, 2, 9, 10], .auto 0], ⟨.dat .str :: us 1 ++ .ptr 0 [] :: us 6 ++ .dat (.int .i64) :: .ptr 1 [] :: us 63, [.pair (.dat Qih) (.pair (.nils) (.dat .unit)), .pair (.dat Qih) (.pair (.vsl 2) (.dat .unit)), .vec Qie]⟩⟩]
def QU.c (k : Nat) {ρ : Type} (s : ByteArray) (K : Qid × Int × Int × Unit → Option ρ) : Option ρ :=
 bif (decide ((((ByteArray.size s) : Nat) : Int) > (8192 : Int))) then (K ((((0 : Int), ((List.replicate 32 (0 : Int)), ((List.replicate 32 (0 : Int)), ((0 : Int), ((0 : Int), ((0 : Int), ())))))), ([], ())), ((0 : Int), ((110 : Int), ())))) else ((QJ k s (0 : Int)).bind fun t0 => let v1 : Int := t0.2.1
 bif (v1 != (0 : Int)) then (K ((((0 : Int), ((List.replicate 32 (0 : Int)), ((List.replicate 32 (0 : Int)), ((0 : Int), ((0 : Int), ((0 : Int), ())))))), ([], ())), ((0 : Int), (v1, ())))) else (bif (decide (((0 : Int) ≤ (80 : Int)) ∧ (((80 : Int) ≤ (((ByteArray.size s) : Nat) : Int)) ∧ ((((ByteArray.size s) : Nat) : Int) ≤ (((ByteArray.size s) : Nat) : Int))))) then (let v2 : ByteArray := (ByteArray.extract s 80 (Int.toNat (((ByteArray.size s) : Nat) : Int)))
 (Q0A k v2).bind fun t3 => (QB k (8192 : Int) (t3.1.1, (t3.1.2.1, (t3.1.2.2.1, ())))).bind fun t4 => (Q0Y k (t4.2.1.1, (t4.2.1.2.1, (t4.2.1.2.2.1, ())))).bind fun t5 => let v6 : Int := (IntKind.wrap IntKind.i64 ((80 : Int) + t5.1))
 (Q0n k (t5.2.1.1, (t5.2.1.2.1, (t5.2.1.2.2.1, ())))).bind fun t7 => bif (t7.1 != (0 : Int)) then ((Q0n k (t7.2.1.1, (t7.2.1.2.1, (t7.2.1.2.2.1, ())))).bind fun t8 => K ((((0 : Int), ((List.replicate 32 (0 : Int)), ((List.replicate 32 (0 : Int)), ((0 : Int), ((0 : Int), ((0 : Int), ())))))), ([], ())), (v6, (t8.1, ())))) else ((QU.l0 k k (s, (v6, (t4.1, ((0 : Int), ((((0 : Int), ((List.replicate 32 (0 : Int)), ((List.replicate 32 (0 : Int)), ((0 : Int), ((0 : Int), ((0 : Int), ())))))), ((), ())), (((t0.1.1, (t0.1.2.1, (t0.1.2.2.1, (t0.1.2.2.2.1, (t0.1.2.2.2.2.1, (t0.1.2.2.2.2.2.1, ())))))), ((), ())), ([], ())))))))).bind fun t13 => (match t13 with | .inl t14 => (K (((t14.2.2.1.1.1, (t14.2.2.1.1.2.1, (t14.2.2.1.1.2.2.1, (t14.2.2.1.1.2.2.2.1, (t14.2.2.1.1.2.2.2.2.1, (t14.2.2.1.1.2.2.2.2.2.1, ())))))), ([], ())), (t14.1, (t14.2.1, ())))) | .inr (t15) => (let v16 : Int := (((ByteArray.size t15.1) : Nat) : Int)
 bif (decide (t15.2.1 < v16)) then (K ((((0 : Int), ((List.replicate 32 (0 : Int)), ((List.replicate 32 (0 : Int)), ((0 : Int), ((0 : Int), ((0 : Int), ())))))), ([], ())), (t15.2.1, ((5 : Int), ())))) else (K (((t15.2.2.2.1.1.1, (t15.2.2.2.1.1.2.1, (t15.2.2.2.1.1.2.2.1, (t15.2.2.2.1.1.2.2.2.1, (t15.2.2.2.1.1.2.2.2.2.1, (t15.2.2.2.1.1.2.2.2.2.2.1, ())))))), (t15.2.2.2.2.1, ())), ((0 : Int), ((0 : Int), ())))))))) else (none)))
def QU (k : Nat) (s : ByteArray) : Option (Qid × Int × Int × Unit) := QU.c k s some
def QU.tin : List Ty := [.str]
def QU.tout : List Ty := [Qib, (.int .i64), (.int .i64)]
def QU.sem (k : Nat) : QT := Q00 QU.tin QU.tout fun x => QU k x.1
noncomputable def QU.ctx (k : Nat) : Ctx := ⟨Tryz.prog, gam [(6, (QJ.sem k)), (27, (Q0A.sem k)), (48, (QB.sem k)), (49, (Q0Y.sem k)), (30, (Q0n.sem k)), (50, (Qw.sem k))]⟩
theorem QU.gok (k : Nat) : ∀ f, QI Tryz.prog f ((QU.ctx k).Γ f) := (Ql (QJ.sem_ok k) (Ql (Q0A.sem_ok k) (Ql (QB.sem_ok k) (Ql (Q0Y.sem_ok k) (Ql (Q0n.sem_ok k) (Ql (Qw.sem_ok k) Q01))))))
theorem QU.l0.round (k : Nat) : Q14 (QU.ctx k) (QP (Func.code Tryz.f19) [1, 1, 1, 1, 1, 1, 1, 1, 1, 0, 1, 0, 0]) (.nil) QU.l0.T [.mask [0, 2, 9, 10, 44, 45], .auto 0] QU.l0.os (QU.l0.r k) := by
 intro ρ x kn ke; kernel_rfl
theorem QU.l0.ok (k : Nat) : StOK 0 Tryz.prog (.loop (QP (Func.code Tryz.f19) [1, 1, 1, 1, 1, 1, 1, 1, 1, 0, 1, 0, 0])) (Qp QU.l0.T QU.l0.os (QU.l0 k k)) :=
 Q16 (C := QU.ctx k) (QU.gok k) Tryz.mix Q1.nil (by kernel_rfl) (by kernel_rfl) (by kernel_rfl) (QU.l0.round k) k
def QU.ann (k : Nat) : Ann := .node [] none (.nil) (.node [] none (.nil) (.node [] none (.nil) (.node [] none (.nil) (.node [] none (.nil) (.node [] none (.nil) (.node [] none (.nil) (.node [] none (.nil) (.node [] none (.nil) (.node [] none (.node [] none (.nil) (.node [] none (.node [.mask [0, 2, 9, 10, 44, 45], .auto 0, .own (.blk 1 [1]) Qie] (some (Qp QU.l0.T QU.l0.os (QU.l0 k k))) .nil .nil) (.nil))) (.nil))))))))))
theorem QU.body (k : Nat) : Q0W (QU.ctx k) Tryz.f19 (Func.code Tryz.f19) (QU.ann k) QU.tin QU.tout (fun x K => QU.c k x.1 K) := by
 intro ρ x K; kernel_rfl
theorem QU.sem_ok (k : Nat) : QI Tryz.prog 19 (QU.sem k) :=
 QG (C := QU.ctx k) (QU.gok k) Tryz.mix (c := Func.code Tryz.f19) (ann := QU.ann k) (tin := QU.tin) (tout := QU.tout) (fun x K => QU.c k x.1 K) Tryz.func19 (by kernel_rfl) (by kernel_rfl) (Q1.seq Q1.nil (Q1.seq Q1.nil (Q1.seq Q1.nil (Q1.seq Q1.nil (Q1.seq Q1.nil (Q1.seq Q1.nil (Q1.seq Q1.nil (Q1.seq Q1.nil (Q1.seq Q1.nil (Q1.seq (Q1.seq Q1.nil (Q1.block (Q1.loop (by kernel_rfl) (QU.l0.ok k)))) Q1.nil)))))))))) (QU.body k)
abbrev Q3.p0.σ : Type := ByteArray × Int × Unit
abbrev Q3.p0.τ : Type := (Int × Int × Int × Unit) ⊕ (ByteArray × Int × Unit)
def Q3.p0.r (k : Nat) {ρ : Type} (x : Q3.p0.σ) (K : Q3.p0.τ → Option ρ) : Option ρ :=
 bif (decide (x.2.1 < (0 : Int))) then (K (.inl ((0 : Int), ((0 : Int), ((1 : Int), ()))))) else (let v0 : Int := (((ByteArray.size x.1) : Nat) : Int)
 bif (decide (x.2.1 > v0)) then (K (.inl ((0 : Int), ((0 : Int), ((1 : Int), ()))))) else (K (.inr (x.1, (x.2.1, ())))))
def Q3.p0 (k : Nat) (x : Q3.p0.σ) : Option Q3.p0.τ := Q3.p0.r k x some
def Q3.p0.T : StT := ⟨.dat .str :: .dat (.int .i64) :: us 61, []⟩
def Q3.p0.os : List Out := [⟨.ret, [.mask [4, 5, 6], .auto 0], ⟨us 4 ++ .dat (.int .u64) :: .dat (.int .i64) :: .dat (.int .i64) :: us 56, []⟩⟩, ⟨.normal, [.mask [0, 1], .auto 0], ⟨.dat .str :: .dat (.int .i64) :: us 61, []⟩⟩]
abbrev Q3.p1.σ : Type := ByteArray × Int × Int × Unit
abbrev Q3.p1.τ : Type := (ByteArray × Int × Int × Unit)
def Q3.p1.r (k : Nat) {ρ : Type} (x : Q3.p1.σ) (K : Q3.p1.τ → Option ρ) : Option ρ :=
 bif (decide (((0 : Int) ≤ x.2.1) ∧ (x.2.1 < (((ByteArray.size x.1) : Nat) : Int)))) then (let v5 : Int := (Q1v x.1 (Int.toNat x.2.1))
 bif (v5 == (253 : Int)) then (K (x.1, (x.2.1, ((2 : Int), ())))) else (bif (v5 == (254 : Int)) then (K (x.1, (x.2.1, ((4 : Int), ())))) else (bif (v5 == (255 : Int)) then (K (x.1, (x.2.1, ((8 : Int), ())))) else (K (x.1, (x.2.1, (x.2.2.1, ()))))))) else (none)
def Q3.p1 (k : Nat) (x : Q3.p1.σ) : Option Q3.p1.τ := Q3.p1.r k x some
def Q3.p1.T : StT := ⟨.dat .str :: .dat (.int .i64) :: us 5 ++ .dat (.int .i64) :: us 55, []⟩
def Q3.p1.os : List Out := [⟨.normal, [.mask [0, 1, 7], .auto 0], ⟨.dat .str :: .dat (.int .i64) :: us 5 ++ .dat (.int .i64) :: us 55, []⟩⟩]
abbrev Q3.p2.σ : Type := ByteArray × Int × Int × Int × Unit
abbrev Q3.p2.τ : Type := (Int × Int × Int × Unit)
def Q3.p2.r (k : Nat) {ρ : Type} (x : Q3.p2.σ) (K : Q3.p2.τ → Option ρ) : Option ρ :=
 bif (decide (x.2.2.1 > (0 : Int))) then (let v11 : Int := (IntKind.wrap IntKind.i64 (x.2.1 + (1 : Int)))
 let v12 : Int := (IntKind.wrap IntKind.i64 (x.2.1 + (1 : Int)))
 let v13 : Int := (IntKind.wrap IntKind.i64 (v12 + x.2.2.1))
 bif (decide (((0 : Int) ≤ v11) ∧ ((v11 ≤ v13) ∧ (v13 ≤ (((ByteArray.size x.1) : Nat) : Int))))) then (let v14 : ByteArray := (ByteArray.extract x.1 (Int.toNat v11) (Int.toNat v13))
 (Qt k v14).bind fun t15 => K (x.2.1, (x.2.2.1, (t15.1, ())))) else (none)) else (K (x.2.1, (x.2.2.1, (x.2.2.2.1, ()))))
def Q3.p2 (k : Nat) (x : Q3.p2.σ) : Option Q3.p2.τ := Q3.p2.r k x some
def Q3.p2.T : StT := ⟨.dat .str :: .dat (.int .i64) :: us 5 ++ .dat (.int .i64) :: .dat (.int .u64) :: us 54, []⟩
def Q3.p2.os : List Out := [⟨.normal, [.mask [1, 7, 8], .auto 0], ⟨us 1 ++ .dat (.int .i64) :: us 5 ++ .dat (.int .i64) :: .dat (.int .u64) :: us 54, []⟩⟩]
def Q3.c (k : Nat) {ρ : Type} (s : ByteArray) (at_1 : Int) (K : Int × Int × Int × Unit → Option ρ) : Option ρ :=
 (Q3.p0 k (s, (at_1, ()))).bind fun t1 => (match t1 with | .inl t2 => (K (t2.1, (t2.2.1, (t2.2.2.1, ())))) | .inr (t3) => (let v4 : Int := (((ByteArray.size t3.1) : Nat) : Int)
 bif (t3.2.1 == v4) then (K ((0 : Int), ((0 : Int), ((4 : Int), ())))) else ((Q3.p1 k (t3.1, (t3.2.1, ((0 : Int), ())))).bind fun t6 => let v7 : Int := (((ByteArray.size t6.1) : Nat) : Int)
 let v8 : Int := (IntKind.wrap IntKind.i64 (v7 - t6.2.1))
 let v9 : Int := (IntKind.wrap IntKind.i64 (v8 - (1 : Int)))
 bif (decide (v9 < t6.2.2.1)) then (K ((0 : Int), ((0 : Int), ((4 : Int), ())))) else (bif (decide (((0 : Int) ≤ t6.2.1) ∧ (t6.2.1 < (((ByteArray.size t6.1) : Nat) : Int)))) then (let v10 : Int := (Q1v t6.1 (Int.toNat t6.2.1))
 (Q3.p2 k (t6.1, (t6.2.1, (t6.2.2.1, ((IntKind.wrap IntKind.u64 v10), ()))))).bind fun t16 => (Q0e k t16.2.2.1).bind fun t17 => let v18 : Int := (((ByteArray.size t17.1) : Nat) : Int)
 let v19 : Int := (IntKind.wrap IntKind.i64 ((1 : Int) + t16.2.1))
 bif (v18 != v19) then (K ((0 : Int), ((0 : Int), ((6 : Int), ())))) else (let v20 : Int := (IntKind.wrap IntKind.i64 (t16.1 + (1 : Int)))
 let v21 : Int := (IntKind.wrap IntKind.i64 (v20 + t16.2.1))
 K (t16.2.2.1, (v21, ((0 : Int), ()))))) else (none)))))
def Q3 (k : Nat) (s : ByteArray) (at_1 : Int) : Option (Int × Int × Int × Unit) := Q3.c k s at_1 some
def Q3.tin : List Ty := [.str, (.int .i64)]
def Q3.tout : List Ty := [(.int .u64), (.int .i64), (.int .i64)]
def Q3.sem (k : Nat) : QT := Q00 Q3.tin Q3.tout fun x => Q3 k x.1 x.2.1
noncomputable def Q3.ctx (k : Nat) : Ctx := ⟨Tryz.prog, gam [(31, (Qt.sem k)), (45, (Q0e.sem k))]⟩
theorem Q3.gok (k : Nat) : ∀ f, QI Tryz.prog f ((Q3.ctx k).Γ f) := (Ql (Qt.sem_ok k) (Ql (Q0e.sem_ok k) Q01))
theorem Q3.p0.is (k : Nat) : Q22 (Q3.ctx k) (QP (Func.code Tryz.f51) [1, 0]) (.nil) Q3.p0.T Q3.p0.os (Q3.p0.r k) := by
 intro ρ x K; kernel_rfl
theorem Q3.p0.ok (k : Nat) : StOK 0 Tryz.prog (QP (Func.code Tryz.f51) [1, 0]) (Qp Q3.p0.T Q3.p0.os (Q3.p0 k)) :=
 Q1X (C := Q3.ctx k) (T := Q3.p0.T) (os := Q3.p0.os) (Q3.gok k) Tryz.mix (fun x K => Q3.p0.r k x K) Q1.nil (by kernel_rfl) (by kernel_rfl) (Q3.p0.is k)
theorem Q3.p1.is (k : Nat) : Q22 (Q3.ctx k) (QP (Func.code Tryz.f51) [1, 1, 1, 1, 0]) (.nil) Q3.p1.T Q3.p1.os (Q3.p1.r k) := by
 intro ρ x K; kernel_rfl
theorem Q3.p1.ok (k : Nat) : StOK 0 Tryz.prog (QP (Func.code Tryz.f51) [1, 1, 1, 1, 0]) (Qp Q3.p1.T Q3.p1.os (Q3.p1 k)) :=
 Q1X (C := Q3.ctx k) (T := Q3.p1.T) (os := Q3.p1.os) (Q3.gok k) Tryz.mix (fun x K => Q3.p1.r k x K) Q1.nil (by kernel_rfl) (by kernel_rfl) (Q3.p1.is k)
theorem Q3.p2.is (k : Nat) : Q22 (Q3.ctx k) (QP (Func.code Tryz.f51) [1, 1, 1, 1, 1, 1, 1, 0]) (.nil) Q3.p2.T Q3.p2.os (Q3.p2.r k) := by
 intro ρ x K; kernel_rfl
theorem Q3.p2.ok (k : Nat) : StOK 0 Tryz.prog (QP (Func.code Tryz.f51) [1, 1, 1, 1, 1, 1, 1, 0]) (Qp Q3.p2.T Q3.p2.os (Q3.p2 k)) :=
 Q1X (C := Q3.ctx k) (T := Q3.p2.T) (os := Q3.p2.os) (Q3.gok k) Tryz.mix (fun x K => Q3.p2.r k x K) Q1.nil (by kernel_rfl) (by kernel_rfl) (Q3.p2.is k)
def Q3.ann (k : Nat) : Ann := .node [] none (.nil) (.node [] none (.node [] (some (Qp Q3.p0.T Q3.p0.os (Q3.p0 k))) .nil .nil) (.node [] none (.nil) (.node [] none (.nil) (.node [] none (.node [] (some (Qp Q3.p1.T Q3.p1.os (Q3.p1 k))) .nil .nil) (.node [] none (.nil) (.node [] none (.nil) (.node [] none (.node [] (some (Qp Q3.p2.T Q3.p2.os (Q3.p2 k))) .nil .nil) (.nil))))))))
theorem Q3.body (k : Nat) : Q0W (Q3.ctx k) Tryz.f51 (Func.code Tryz.f51) (Q3.ann k) Q3.tin Q3.tout (fun x K => Q3.c k x.1 x.2.1 K) := by
 intro ρ x K; kernel_rfl
theorem Q3.sem_ok (k : Nat) : QI Tryz.prog 51 (Q3.sem k) :=
 QG (C := Q3.ctx k) (Q3.gok k) Tryz.mix (c := Func.code Tryz.f51) (ann := Q3.ann k) (tin := Q3.tin) (tout := Q3.tout) (fun x K => Q3.c k x.1 x.2.1 K) Tryz.func51 (by kernel_rfl) (by kernel_rfl) (Q1.seq Q1.nil (Q1.seq (Q1.loop (by kernel_rfl) (Q3.p0.ok k)) (Q1.seq Q1.nil (Q1.seq Q1.nil (Q1.seq (Q1.loop (by kernel_rfl) (Q3.p1.ok k)) (Q1.seq Q1.nil (Q1.seq Q1.nil (Q1.seq (Q1.loop (by kernel_rfl) (Q3.p2.ok k)) Q1.nil)))))))) (Q3.body k)
abbrev Q8.p0.σ : Type := ByteArray × Int × Int × Int × Qio × Qio × Unit
abbrev Q8.p0.τ : Type := (ByteArray × Int × Int × Int × Qio × Qio × Unit)
def Q8.p0.r (k : Nat) {ρ : Type} (x : Q8.p0.σ) (K : Q8.p0.τ → Option ρ) : Option ρ :=
 bif (x.2.1 == (0 : Int)) then (bif (decide (x.2.2.1 > (8192 : Int))) then (K (x.1, ((5 : Int), (x.2.2.1, (x.2.2.2.1, (((x.2.2.2.2.1.1.1, (x.2.2.2.2.1.1.2.1, (x.2.2.2.2.1.1.2.2.1, (x.2.2.2.2.1.1.2.2.2.1, (x.2.2.2.2.1.1.2.2.2.2.1, (x.2.2.2.2.1.1.2.2.2.2.2.1, ())))))), ((), ())), (((x.2.2.2.2.2.1.1.1, (x.2.2.2.2.2.1.1.2.1, (x.2.2.2.2.2.1.1.2.2.1, (x.2.2.2.2.2.1.1.2.2.2.1, (x.2.2.2.2.2.1.1.2.2.2.2.1, (x.2.2.2.2.2.1.1.2.2.2.2.2.1, ())))))), ((), ())), ()))))))) else (K (x.1, (x.2.1, (x.2.2.1, (x.2.2.2.1, (((x.2.2.2.2.1.1.1, (x.2.2.2.2.1.1.2.1, (x.2.2.2.2.1.1.2.2.1, (x.2.2.2.2.1.1.2.2.2.1, (x.2.2.2.2.1.1.2.2.2.2.1, (x.2.2.2.2.1.1.2.2.2.2.2.1, ())))))), ((), ())), (((x.2.2.2.2.2.1.1.1, (x.2.2.2.2.2.1.1.2.1, (x.2.2.2.2.2.1.1.2.2.1, (x.2.2.2.2.2.1.1.2.2.2.1, (x.2.2.2.2.2.1.1.2.2.2.2.1, (x.2.2.2.2.2.1.1.2.2.2.2.2.1, ())))))), ((), ())), ())))))))) else (K (x.1, (x.2.1, (x.2.2.1, (x.2.2.2.1, (((x.2.2.2.2.1.1.1, (x.2.2.2.2.1.1.2.1, (x.2.2.2.2.1.1.2.2.1, (x.2.2.2.2.1.1.2.2.2.1, (x.2.2.2.2.1.1.2.2.2.2.1, (x.2.2.2.2.1.1.2.2.2.2.2.1, ())))))), ((), ())), (((x.2.2.2.2.2.1.1.1, (x.2.2.2.2.2.1.1.2.1, (x.2.2.2.2.2.1.1.2.2.1, (x.2.2.2.2.2.1.1.2.2.2.1, (x.2.2.2.2.2.1.1.2.2.2.2.1, (x.2.2.2.2.2.1.1.2.2.2.2.2.1, ())))))), ((), ())), ())))))))
def Q8.p0 (k : Nat) (x : Q8.p0.σ) : Option Q8.p0.τ := Q8.p0.r k x some
def Q8.p0.T : StT := ⟨.dat .str :: us 1 ++ .ptr 0 [] :: us 3 ++ .dat (.int .i64) :: .ptr 1 [] :: .dat (.int .u64) :: .dat (.int .i64) :: us 66, [.pair (.dat Qih) (.pair (.nils) (.dat .unit)), .pair (.dat Qih) (.pair (.nils) (.dat .unit))]⟩
def Q8.p0.os : List Out := [⟨.normal, [.mask [0, 2, 6, 7, 8, 9], .auto 0], ⟨.dat .str :: us 1 ++ .ptr 0 [] :: us 3 ++ .dat (.int .i64) :: .ptr 1 [] :: .dat (.int .u64) :: .dat (.int .i64) :: us 66, [.pair (.dat Qih) (.pair (.nils) (.dat .unit)), .pair (.dat Qih) (.pair (.nils) (.dat .unit))]⟩⟩]
abbrev Q8.l1.σ : Type := ByteArray × Int × Int × Int × Qio × Qio × Qik × Unit
abbrev Q8.l1.τ : Type := Qim ⊕ (ByteArray × Int × Qio × Qio × Qik × Unit)
def Q8.l1.r (k : Nat) {ρ : Type} (x : Q8.l1.σ) (kn : Q8.l1.σ → Option ρ) (ke : Q8.l1.τ → Option ρ) : Option ρ :=
 bif (decide (x.2.2.2.1 < x.2.1)) then ((Q0 k x.1 x.2.2.1).bind fun t7 => let v8 : Int := t7.2.1
 let v9 : Int := t7.2.2.1
 bif (v9 != (0 : Int)) then (ke (.inl (x.2.2.1, (v9, ((((0 : Int), ((List.replicate 32 (0 : Int)), ((List.replicate 32 (0 : Int)), ((0 : Int), ((0 : Int), ((0 : Int), ())))))), ((), ())), ()))))) else (bif (Nat.ble (((List.length x.2.2.2.2.2.2.1) + (List.length (List.set (List.replicate 1 ((0 : Int), ([], ([], ((0 : Int), ()))))) 0 (t7.1.1, (t7.1.2.1, (t7.1.2.2.1, (t7.1.2.2.2.1, ()))))))) * 64) 140737488355328) then (let v10 : Int := (IntKind.wrap IntKind.u64 (x.2.2.2.1 + (1 : Int)))
 kn (x.1, (x.2.1, (v8, (v10, (((x.2.2.2.2.1.1.1, (x.2.2.2.2.1.1.2.1, (x.2.2.2.2.1.1.2.2.1, (x.2.2.2.2.1.1.2.2.2.1, (x.2.2.2.2.1.1.2.2.2.2.1, (x.2.2.2.2.1.1.2.2.2.2.2.1, ())))))), ((), ())), (((x.2.2.2.2.2.1.1.1, (x.2.2.2.2.2.1.1.2.1, (x.2.2.2.2.2.1.1.2.2.1, (x.2.2.2.2.2.1.1.2.2.2.1, (x.2.2.2.2.2.1.1.2.2.2.2.1, (x.2.2.2.2.2.1.1.2.2.2.2.2.1, ())))))), ((), ())), ((x.2.2.2.2.2.2.1 ++ (List.set (List.replicate 1 ((0 : Int), ([], ([], ((0 : Int), ()))))) 0 (t7.1.1, (t7.1.2.1, (t7.1.2.2.1, (t7.1.2.2.2.1, ())))))), ())))))))) else (none))) else (ke (.inr (x.1, (x.2.2.1, (((x.2.2.2.2.1.1.1, (x.2.2.2.2.1.1.2.1, (x.2.2.2.2.1.1.2.2.1, (x.2.2.2.2.1.1.2.2.2.1, (x.2.2.2.2.1.1.2.2.2.2.1, (x.2.2.2.2.1.1.2.2.2.2.2.1, ())))))), ((), ())), (((x.2.2.2.2.2.1.1.1, (x.2.2.2.2.2.1.1.2.1, (x.2.2.2.2.2.1.1.2.2.1, (x.2.2.2.2.2.1.1.2.2.2.1, (x.2.2.2.2.2.1.1.2.2.2.2.1, (x.2.2.2.2.2.1.1.2.2.2.2.2.1, ())))))), ((), ())), (x.2.2.2.2.2.2.1, ())))))))
def Q8.l1 (k : Nat) : Nat → Q8.l1.σ → Option Q8.l1.τ := Q15 (Q8.l1.r k)
def Q8.l1.T : StT := ⟨.dat .str :: us 1 ++ .ptr 0 [] :: us 4 ++ .ptr 1 [] :: .dat (.int .u64) :: .dat (.int .i64) :: .dat (.int .u64) :: us 65, [.pair (.dat Qih) (.pair (.nils) (.dat .unit)), .pair (.dat Qih) (.pair (.vsl 2) (.dat .unit)), .vec Qig]⟩
def Q8.l1.os : List Out := [⟨.ret, [.mask [2, 3, 4], .auto 0], ⟨us 2 ++ .ptr 0 [] :: .dat (.int .i64) :: .dat (.int .i64) :: us 71, [.pair (.dat Qih) (.pair (.nils) (.dat .unit))]⟩⟩, ⟨(.exit 0), [.mask [0, 2, 7, 9], .auto 0], ⟨.dat .str :: us 1 ++ .ptr 0 [] :: us 4 ++ .ptr 1 [] :: us 1 ++ .dat (.int .i64) :: us 66, [.pair (.dat Qih) (.pair (.nils) (.dat .unit)), .pair (.dat Qih) (.pair (.vsl 2) (.dat .unit)), .vec Qig]⟩⟩]
def Q8.c (k : Nat) {ρ : Type} (s : ByteArray) (K : Qif × Int × Int × Unit → Option ρ) : Option ρ :=
 bif (decide ((((ByteArray.size s) : Nat) : Int) > (8192 : Int))) then (K ((((0 : Int), ((List.replicate 32 (0 : Int)), ((List.replicate 32 (0 : Int)), ((0 : Int), ((0 : Int), ((0 : Int), ())))))), ([], ())), ((0 : Int), ((110 : Int), ())))) else ((Qi k s (0 : Int)).bind fun t0 => let v1 : Int := t0.2.1
 bif (v1 != (0 : Int)) then (K ((((0 : Int), ((List.replicate 32 (0 : Int)), ((List.replicate 32 (0 : Int)), ((0 : Int), ((0 : Int), ((0 : Int), ())))))), ([], ())), ((0 : Int), (v1, ())))) else ((Q3 k s (80 : Int)).bind fun t2 => let v3 : Int := t2.1
 let v4 : Int := t2.2.1
 let v5 : Int := t2.2.2.1
 (Q8.p0 k (s, (v5, (v3, (v4, ((((0 : Int), ((List.replicate 32 (0 : Int)), ((List.replicate 32 (0 : Int)), ((0 : Int), ((0 : Int), ((0 : Int), ())))))), ((), ())), (((t0.1.1, (t0.1.2.1, (t0.1.2.2.1, (t0.1.2.2.2.1, (t0.1.2.2.2.2.1, (t0.1.2.2.2.2.2.1, ())))))), ((), ())), ()))))))).bind fun t6 => bif (t6.2.1 != (0 : Int)) then (K ((((0 : Int), ((List.replicate 32 (0 : Int)), ((List.replicate 32 (0 : Int)), ((0 : Int), ((0 : Int), ((0 : Int), ())))))), ([], ())), ((80 : Int), (t6.2.1, ())))) else ((Q8.l1 k k (t6.1, (t6.2.2.1, (t6.2.2.2.1, ((0 : Int), (((t6.2.2.2.2.1.1.1, (t6.2.2.2.2.1.1.2.1, (t6.2.2.2.2.1.1.2.2.1, (t6.2.2.2.2.1.1.2.2.2.1, (t6.2.2.2.2.1.1.2.2.2.2.1, (t6.2.2.2.2.1.1.2.2.2.2.2.1, ())))))), ((), ())), (((t6.2.2.2.2.2.1.1.1, (t6.2.2.2.2.2.1.1.2.1, (t6.2.2.2.2.2.1.1.2.2.1, (t6.2.2.2.2.2.1.1.2.2.2.1, (t6.2.2.2.2.2.1.1.2.2.2.2.1, (t6.2.2.2.2.2.1.1.2.2.2.2.2.1, ())))))), ((), ())), ([], ())))))))).bind fun t11 => (match t11 with | .inl t12 => (K (((t12.2.2.1.1.1, (t12.2.2.1.1.2.1, (t12.2.2.1.1.2.2.1, (t12.2.2.1.1.2.2.2.1, (t12.2.2.1.1.2.2.2.2.1, (t12.2.2.1.1.2.2.2.2.2.1, ())))))), ([], ())), (t12.1, (t12.2.1, ())))) | .inr (t13) => (let v14 : Int := (((ByteArray.size t13.1) : Nat) : Int)
 bif (decide (t13.2.1 < v14)) then (K ((((0 : Int), ((List.replicate 32 (0 : Int)), ((List.replicate 32 (0 : Int)), ((0 : Int), ((0 : Int), ((0 : Int), ())))))), ([], ())), (t13.2.1, ((5 : Int), ())))) else (K (((t13.2.2.2.1.1.1, (t13.2.2.2.1.1.2.1, (t13.2.2.2.1.1.2.2.1, (t13.2.2.2.1.1.2.2.2.1, (t13.2.2.2.1.1.2.2.2.2.1, (t13.2.2.2.1.1.2.2.2.2.2.1, ())))))), (t13.2.2.2.2.1, ())), ((0 : Int), ((0 : Int), ())))))))))
def Q8 (k : Nat) (s : ByteArray) : Option (Qif × Int × Int × Unit) := Q8.c k s some
def Q8.tin : List Ty := [.str]
def Q8.tout : List Ty := [Qic, (.int .i64), (.int .i64)]
def Q8.sem (k : Nat) : QT := Q00 Q8.tin Q8.tout fun x => Q8 k x.1
noncomputable def Q8.ctx (k : Nat) : Ctx := ⟨Tryz.prog, gam [(7, (Qi.sem k)), (51, (Q3.sem k)), (52, (Q0.sem k))]⟩
theorem Q8.gok (k : Nat) : ∀ f, QI Tryz.prog f ((Q8.ctx k).Γ f) := (Ql (Qi.sem_ok k) (Ql (Q3.sem_ok k) (Ql (Q0.sem_ok k) Q01)))
theorem Q8.p0.is (k : Nat) : Q22 (Q8.ctx k) (QP (Func.code Tryz.f20) [1, 1, 1, 1, 1, 1, 0]) (.nil) Q8.p0.T Q8.p0.os (Q8.p0.r k) := by
 intro ρ x K; kernel_rfl
theorem Q8.p0.ok (k : Nat) : StOK 0 Tryz.prog (QP (Func.code Tryz.f20) [1, 1, 1, 1, 1, 1, 0]) (Qp Q8.p0.T Q8.p0.os (Q8.p0 k)) :=
 Q1X (C := Q8.ctx k) (T := Q8.p0.T) (os := Q8.p0.os) (Q8.gok k) Tryz.mix (fun x K => Q8.p0.r k x K) Q1.nil (by kernel_rfl) (by kernel_rfl) (Q8.p0.is k)
theorem Q8.l1.round (k : Nat) : Q14 (Q8.ctx k) (QP (Func.code Tryz.f20) [1, 1, 1, 1, 1, 1, 1, 1, 0, 1, 0, 0]) (.nil) Q8.l1.T [.mask [0, 2, 7, 8, 9, 10], .auto 0] Q8.l1.os (Q8.l1.r k) := by
 intro ρ x kn ke; kernel_rfl
theorem Q8.l1.ok (k : Nat) : StOK 0 Tryz.prog (.loop (QP (Func.code Tryz.f20) [1, 1, 1, 1, 1, 1, 1, 1, 0, 1, 0, 0])) (Qp Q8.l1.T Q8.l1.os (Q8.l1 k k)) :=
 Q16 (C := Q8.ctx k) (Q8.gok k) Tryz.mix Q1.nil (by kernel_rfl) (by kernel_rfl) (by kernel_rfl) (Q8.l1.round k) k
def Q8.ann (k : Nat) : Ann := .node [] none (.nil) (.node [] none (.nil) (.node [] none (.nil) (.node [] none (.nil) (.node [] none (.nil) (.node [] none (.nil) (.node [] none (.node [.mask [0, 2, 6, 7, 8, 9], .auto 0] (some (Qp Q8.p0.T Q8.p0.os (Q8.p0 k))) .nil .nil) (.node [] none (.nil) (.node [] none (.node [] none (.nil) (.node [] none (.node [.mask [0, 2, 7, 8, 9, 10], .auto 0, .own (.blk 1 [1]) Qig] (some (Qp Q8.l1.T Q8.l1.os (Q8.l1 k k))) .nil .nil) (.nil))) (.nil)))))))))
theorem Q8.body (k : Nat) : Q0W (Q8.ctx k) Tryz.f20 (Func.code Tryz.f20) (Q8.ann k) Q8.tin Q8.tout (fun x K => Q8.c k x.1 K) := by
 intro ρ x K; kernel_rfl
theorem Q8.sem_ok (k : Nat) : QI Tryz.prog 20 (Q8.sem k) :=
 QG (C := Q8.ctx k) (Q8.gok k) Tryz.mix (c := Func.code Tryz.f20) (ann := Q8.ann k) (tin := Q8.tin) (tout := Q8.tout) (fun x K => Q8.c k x.1 K) Tryz.func20 (by kernel_rfl) (by kernel_rfl) (Q1.seq Q1.nil (Q1.seq Q1.nil (Q1.seq Q1.nil (Q1.seq Q1.nil (Q1.seq Q1.nil (Q1.seq Q1.nil (Q1.seq (Q1.loop (by kernel_rfl) (Q8.p0.ok k)) (Q1.seq Q1.nil (Q1.seq (Q1.seq Q1.nil (Q1.block (Q1.loop (by kernel_rfl) (Q8.l1.ok k)))) Q1.nil))))))))) (Q8.body k)
abbrev Q0l.l0.σ : Type := Int × Qii × Int × Int × Unit
abbrev Q0l.l0.τ : Type := (Int × Unit)
def Q0l.l0.r (k : Nat) {ρ : Type} (x : Q0l.l0.σ) (kn : Q0l.l0.σ → Option ρ) (ke : Q0l.l0.τ → Option ρ) : Option ρ :=
 bif (decide (x.2.2.2.1 < x.2.2.1)) then (bif (decide (((0 : Int) ≤ x.2.2.2.1) ∧ (x.2.2.2.1 < (((List.length x.2.1) : Nat) : Int)))) then ((Q0w k ((List.getD x.2.1 (Int.toNat x.2.2.2.1) ((0 : Int), ([], ([], ((0 : Int), ()))))).1, ((List.getD x.2.1 (Int.toNat x.2.2.2.1) ((0 : Int), ([], ([], ((0 : Int), ()))))).2.1, ((List.getD x.2.1 (Int.toNat x.2.2.2.1) ((0 : Int), ([], ([], ((0 : Int), ()))))).2.2.1, ((List.getD x.2.1 (Int.toNat x.2.2.2.1) ((0 : Int), ([], ([], ((0 : Int), ()))))).2.2.2.1, ()))))).bind fun t6 => let v7 : Int := (IntKind.wrap IntKind.i64 (x.1 + t6.1))
 let v8 : Int := (IntKind.wrap IntKind.i64 (x.2.2.2.1 + (1 : Int)))
 kn (v7, (x.2.1, (x.2.2.1, (v8, ()))))) else (none)) else (ke (x.1, ()))
def Q0l.l0 (k : Nat) : Nat → Q0l.l0.σ → Option Q0l.l0.τ := Q15 (Q0l.l0.r k)
def Q0l.l0.T : StT := ⟨us 3 ++ .dat (.int .i64) :: us 9 ++ .dat (.sl Qie) :: .dat (.int .i64) :: .dat (.int .i64) :: us 9, []⟩
def Q0l.l0.os : List Out := [⟨(.exit 0), [.mask [3], .auto 0], ⟨us 3 ++ .dat (.int .i64) :: us 21, []⟩⟩]
def Q0l.c (k : Nat) {ρ : Type} (b : Qid) (K : Int × Unit → Option ρ) : Option ρ :=
 let v0 : Qii := b.2.1
 let v1 : Int := (((List.length v0) : Nat) : Int)
 (Q0u k (IntKind.wrap IntKind.u64 v1)).bind fun t2 => let v3 : Int := (IntKind.wrap IntKind.i64 ((80 : Int) + t2.1))
 let v4 : Qii := b.2.1
 let v5 : Int := (((List.length v4) : Nat) : Int)
 (Q0l.l0 k k (v3, (v4, (v5, ((0 : Int), ()))))).bind fun t9 => K (t9.1, ())
def Q0l (k : Nat) (b : Qid) : Option (Int × Unit) := Q0l.c k b some
def Q0l.tin : List Ty := [Qib]
def Q0l.tout : List Ty := [(.int .i64)]
def Q0l.sem (k : Nat) : QT := Q00 Q0l.tin Q0l.tout fun x => Q0l k x.1
noncomputable def Q0l.ctx (k : Nat) : Ctx := ⟨Tryz.prog, gam [(53, (Q0u.sem k)), (54, (Q0w.sem k))]⟩
theorem Q0l.gok (k : Nat) : ∀ f, QI Tryz.prog f ((Q0l.ctx k).Γ f) := (Ql (Q0u.sem_ok k) (Ql (Q0w.sem_ok k) Q01))
theorem Q0l.l0.round (k : Nat) : Q14 (Q0l.ctx k) (QP (Func.code Tryz.f21) [1, 1, 0, 1, 0, 0]) (.nil) Q0l.l0.T [.mask [3, 13, 14, 15], .auto 0] Q0l.l0.os (Q0l.l0.r k) := by
 intro ρ x kn ke; kernel_rfl
theorem Q0l.l0.ok (k : Nat) : StOK 0 Tryz.prog (.loop (QP (Func.code Tryz.f21) [1, 1, 0, 1, 0, 0])) (Qp Q0l.l0.T Q0l.l0.os (Q0l.l0 k k)) :=
 Q16 (C := Q0l.ctx k) (Q0l.gok k) Tryz.mix Q1.nil (by kernel_rfl) (by kernel_rfl) (by kernel_rfl) (Q0l.l0.round k) k
def Q0l.ann (k : Nat) : Ann := .node [] none (.nil) (.node [] none (.nil) (.node [] none (.node [] none (.nil) (.node [] none (.node [.mask [3, 13, 14, 15], .auto 0] (some (Qp Q0l.l0.T Q0l.l0.os (Q0l.l0 k k))) .nil .nil) (.nil))) (.nil)))
theorem Q0l.body (k : Nat) : Q0W (Q0l.ctx k) Tryz.f21 (Func.code Tryz.f21) (Q0l.ann k) Q0l.tin Q0l.tout (fun x K => Q0l.c k x.1 K) := by
 intro ρ x K; kernel_rfl
theorem Q0l.sem_ok (k : Nat) : QI Tryz.prog 21 (Q0l.sem k) :=
 QG (C := Q0l.ctx k) (Q0l.gok k) Tryz.mix (c := Func.code Tryz.f21) (ann := Q0l.ann k) (tin := Q0l.tin) (tout := Q0l.tout) (fun x K => Q0l.c k x.1 K) Tryz.func21 (by kernel_rfl) (by kernel_rfl) (Q1.seq Q1.nil (Q1.seq Q1.nil (Q1.seq (Q1.seq Q1.nil (Q1.block (Q1.loop (by kernel_rfl) (Q0l.l0.ok k)))) Q1.nil))) (Q0l.body k)
abbrev QK.p0.σ : Type := Qid × Qid × Unit
abbrev QK.p0.τ : Type := (Bool × Unit) ⊕ (Qid × Qid × Unit)
def QK.p0.r (k : Nat) {ρ : Type} (x : QK.p0.σ) (K : QK.p0.τ → Option ρ) : Option ρ :=
 bif (!((x.1.1.1 == x.2.1.1.1) && ((decide (x.1.1.2.1 = x.2.1.1.2.1)) && ((decide (x.1.1.2.2.1 = x.2.1.1.2.2.1)) && ((x.1.1.2.2.2.1 == x.2.1.1.2.2.2.1) && ((x.1.1.2.2.2.2.1 == x.2.1.1.2.2.2.2.1) && ((x.1.1.2.2.2.2.2.1 == x.2.1.1.2.2.2.2.2.1) && true))))))) then (K (.inl (false, ()))) else (let v0 : Qii := x.1.2.1
 let v1 : Int := (((List.length v0) : Nat) : Int)
 let v2 : Qii := x.2.1.2.1
 let v3 : Int := (((List.length v2) : Nat) : Int)
 bif (v1 != v3) then (K (.inl (false, ()))) else (K (.inr (((x.1.1.1, (x.1.1.2.1, (x.1.1.2.2.1, (x.1.1.2.2.2.1, (x.1.1.2.2.2.2.1, (x.1.1.2.2.2.2.2.1, ())))))), (x.1.2.1, ())), (((x.2.1.1.1, (x.2.1.1.2.1, (x.2.1.1.2.2.1, (x.2.1.1.2.2.2.1, (x.2.1.1.2.2.2.2.1, (x.2.1.1.2.2.2.2.2.1, ())))))), (x.2.1.2.1, ())), ())))))
def QK.p0 (k : Nat) (x : QK.p0.σ) : Option QK.p0.τ := QK.p0.r k x some
def QK.p0.T : StT := ⟨us 2 ++ .ptr 0 [] :: .ptr 1 [] :: us 35, [.dat Qib, .dat Qib]⟩
def QK.p0.os : List Out := [⟨.ret, [.mask [4], .auto 0], ⟨us 4 ++ .dat .bool :: us 34, []⟩⟩, ⟨.normal, [.mask [2, 3], .auto 0], ⟨us 2 ++ .ptr 0 [] :: .ptr 1 [] :: us 35, [.dat Qib, .dat Qib]⟩⟩]
abbrev QK.l1.σ : Type := Int × Int × Qid × Qid × Unit
abbrev QK.l1.τ : Type := (Bool × Unit) ⊕ (Unit)
def QK.l1.r (k : Nat) {ρ : Type} (x : QK.l1.σ) (kn : QK.l1.σ → Option ρ) (ke : QK.l1.τ → Option ρ) : Option ρ :=
 bif (decide (x.2.1 < x.1)) then (let v9 : Qii := x.2.2.1.2.1
 bif (decide (((0 : Int) ≤ x.2.1) ∧ (x.2.1 < (((List.length v9) : Nat) : Int)))) then (let v10 : Qii := x.2.2.2.1.2.1
 bif (decide (((0 : Int) ≤ x.2.1) ∧ (x.2.1 < (((List.length v10) : Nat) : Int)))) then ((Q1O k ((List.getD v9 (Int.toNat x.2.1) ((0 : Int), ([], ([], ((0 : Int), ()))))).1, ((List.getD v9 (Int.toNat x.2.1) ((0 : Int), ([], ([], ((0 : Int), ()))))).2.1, ((List.getD v9 (Int.toNat x.2.1) ((0 : Int), ([], ([], ((0 : Int), ()))))).2.2.1, ((List.getD v9 (Int.toNat x.2.1) ((0 : Int), ([], ([], ((0 : Int), ()))))).2.2.2.1, ())))) ((List.getD v10 (Int.toNat x.2.1) ((0 : Int), ([], ([], ((0 : Int), ()))))).1, ((List.getD v10 (Int.toNat x.2.1) ((0 : Int), ([], ([], ((0 : Int), ()))))).2.1, ((List.getD v10 (Int.toNat x.2.1) ((0 : Int), ([], ([], ((0 : Int), ()))))).2.2.1, ((List.getD v10 (Int.toNat x.2.1) ((0 : Int), ([], ([], ((0 : Int), ()))))).2.2.2.1, ()))))).bind fun t11 => bif (!t11.1) then (ke (.inl (false, ()))) else (let v12 : Int := (IntKind.wrap IntKind.i64 (x.2.1 + (1 : Int)))
 kn (x.1, (v12, (((x.2.2.1.1.1, (x.2.2.1.1.2.1, (x.2.2.1.1.2.2.1, (x.2.2.1.1.2.2.2.1, (x.2.2.1.1.2.2.2.2.1, (x.2.2.1.1.2.2.2.2.2.1, ())))))), (x.2.2.1.2.1, ())), (((x.2.2.2.1.1.1, (x.2.2.2.1.1.2.1, (x.2.2.2.1.1.2.2.1, (x.2.2.2.1.1.2.2.2.1, (x.2.2.2.1.1.2.2.2.2.1, (x.2.2.2.1.1.2.2.2.2.2.1, ())))))), (x.2.2.2.1.2.1, ())), ())))))) else (none)) else (none)) else (ke (.inr ()))
def QK.l1 (k : Nat) : Nat → QK.l1.σ → Option QK.l1.τ := Q15 (QK.l1.r k)
def QK.l1.T : StT := ⟨us 2 ++ .ptr 0 [] :: .ptr 1 [] :: us 18 ++ .dat (.int .i64) :: .dat (.int .i64) :: us 15, [.dat Qib, .dat Qib]⟩
def QK.l1.os : List Out := [⟨.ret, [.mask [4], .auto 0], ⟨us 4 ++ .dat .bool :: us 34, []⟩⟩, ⟨(.exit 0), [.mask [], .auto 0], ⟨us 39, []⟩⟩]
def QK.c (k : Nat) {ρ : Type} (a : Qid) (b : Qid) (K : Bool × Unit → Option ρ) : Option ρ :=
 (QK.p0 k (((a.1.1, (a.1.2.1, (a.1.2.2.1, (a.1.2.2.2.1, (a.1.2.2.2.2.1, (a.1.2.2.2.2.2.1, ())))))), (a.2.1, ())), (((b.1.1, (b.1.2.1, (b.1.2.2.1, (b.1.2.2.2.1, (b.1.2.2.2.2.1, (b.1.2.2.2.2.2.1, ())))))), (b.2.1, ())), ()))).bind fun t4 => (match t4 with | .inl t5 => (K (t5.1, ())) | .inr (t6) => (let v7 : Qii := t6.1.2.1
 let v8 : Int := (((List.length v7) : Nat) : Int)
 (QK.l1 k k (v8, ((0 : Int), (((t6.1.1.1, (t6.1.1.2.1, (t6.1.1.2.2.1, (t6.1.1.2.2.2.1, (t6.1.1.2.2.2.2.1, (t6.1.1.2.2.2.2.2.1, ())))))), (t6.1.2.1, ())), (((t6.2.1.1.1, (t6.2.1.1.2.1, (t6.2.1.1.2.2.1, (t6.2.1.1.2.2.2.1, (t6.2.1.1.2.2.2.2.1, (t6.2.1.1.2.2.2.2.2.1, ())))))), (t6.2.1.2.1, ())), ()))))).bind fun t13 => (match t13 with | .inl t14 => (K (t14.1, ())) | .inr (t15) => (K (true, ())))))
def QK (k : Nat) (a : Qid) (b : Qid) : Option (Bool × Unit) := QK.c k a b some
def QK.tin : List Ty := [Qib, Qib]
def QK.tout : List Ty := [.bool]
def QK.sem (k : Nat) : QT := Q00 QK.tin QK.tout fun x => QK k x.1 x.2.1
noncomputable def QK.ctx (k : Nat) : Ctx := ⟨Tryz.prog, gam [(55, (Q1O.sem k))]⟩
theorem QK.gok (k : Nat) : ∀ f, QI Tryz.prog f ((QK.ctx k).Γ f) := (Ql (Q1O.sem_ok k) Q01)
theorem QK.p0.is (k : Nat) : Q22 (QK.ctx k) (QP (Func.code Tryz.f22) [1, 0]) (.nil) QK.p0.T QK.p0.os (QK.p0.r k) := by
 intro ρ x K; kernel_rfl
theorem QK.p0.ok (k : Nat) : StOK 0 Tryz.prog (QP (Func.code Tryz.f22) [1, 0]) (Qp QK.p0.T QK.p0.os (QK.p0 k)) :=
 Q1X (C := QK.ctx k) (T := QK.p0.T) (os := QK.p0.os) (QK.gok k) Tryz.mix (fun x K => QK.p0.r k x K) Q1.nil (by kernel_rfl) (by kernel_rfl) (QK.p0.is k)
theorem QK.l1.round (k : Nat) : Q14 (QK.ctx k) (QP (Func.code Tryz.f22) [1, 1, 0, 1, 0, 0]) (.nil) QK.l1.T [.mask [2, 3, 22, 23], .auto 0] QK.l1.os (QK.l1.r k) := by
 intro ρ x kn ke; kernel_rfl
theorem QK.l1.ok (k : Nat) : StOK 0 Tryz.prog (.loop (QP (Func.code Tryz.f22) [1, 1, 0, 1, 0, 0])) (Qp QK.l1.T QK.l1.os (QK.l1 k k)) :=
 Q16 (C := QK.ctx k) (QK.gok k) Tryz.mix Q1.nil (by kernel_rfl) (by kernel_rfl) (by kernel_rfl) (QK.l1.round k) k
def QK.ann (k : Nat) : Ann := .node [] none (.nil) (.node [] none (.node [.mask [2, 3], .auto 0] (some (Qp QK.p0.T QK.p0.os (QK.p0 k))) .nil .nil) (.node [] none (.node [] none (.nil) (.node [] none (.node [.mask [2, 3, 22, 23], .auto 0] (some (Qp QK.l1.T QK.l1.os (QK.l1 k k))) .nil .nil) (.nil))) (.nil)))
theorem QK.body (k : Nat) : Q0W (QK.ctx k) Tryz.f22 (Func.code Tryz.f22) (QK.ann k) QK.tin QK.tout (fun x K => QK.c k x.1 x.2.1 K) := by
 intro ρ x K; kernel_rfl
theorem QK.sem_ok (k : Nat) : QI Tryz.prog 22 (QK.sem k) :=
 QG (C := QK.ctx k) (QK.gok k) Tryz.mix (c := Func.code Tryz.f22) (ann := QK.ann k) (tin := QK.tin) (tout := QK.tout) (fun x K => QK.c k x.1 x.2.1 K) Tryz.func22 (by kernel_rfl) (by kernel_rfl) (Q1.seq Q1.nil (Q1.seq (Q1.loop (by kernel_rfl) (QK.p0.ok k)) (Q1.seq (Q1.seq Q1.nil (Q1.block (Q1.loop (by kernel_rfl) (QK.l1.ok k)))) Q1.nil))) (QK.body k)
abbrev Q2.p0.σ : Type := ByteArray × ByteArray × Int × ByteArray × Int × Qid × Qif × Unit
abbrev Q2.p0.τ : Type := Qia 
def Q2.p0.r (k : Nat) {ρ : Type} (x : Q2.p0.σ) (K : Q2.p0.τ → Option ρ) : Option ρ :=
 bif (x.2.2.2.2.1 == (0 : Int)) then (let v6 : Int := (((ByteArray.size x.2.2.2.1) : Nat) : Int)
 bif (decide (v6 > (8192 : Int))) then (K (x.1, (x.2.1, (x.2.2.1, (x.2.2.2.1, ((110 : Int), (((x.2.2.2.2.2.1.1.1, (x.2.2.2.2.2.1.1.2.1, (x.2.2.2.2.2.1.1.2.2.1, (x.2.2.2.2.2.1.1.2.2.2.1, (x.2.2.2.2.2.1.1.2.2.2.2.1, (x.2.2.2.2.2.1.1.2.2.2.2.2.1, ())))))), (x.2.2.2.2.2.1.2.1, ())), (((x.2.2.2.2.2.2.1.1.1, (x.2.2.2.2.2.2.1.1.2.1, (x.2.2.2.2.2.2.1.1.2.2.1, (x.2.2.2.2.2.2.1.1.2.2.2.1, (x.2.2.2.2.2.2.1.1.2.2.2.2.1, (x.2.2.2.2.2.2.1.1.2.2.2.2.2.1, ())))))), (x.2.2.2.2.2.2.1.2.1, ())), ())))))))) else (K (x.1, (x.2.1, (x.2.2.1, (x.2.2.2.1, (x.2.2.2.2.1, (((x.2.2.2.2.2.1.1.1, (x.2.2.2.2.2.1.1.2.1, (x.2.2.2.2.2.1.1.2.2.1, (x.2.2.2.2.2.1.1.2.2.2.1, (x.2.2.2.2.2.1.1.2.2.2.2.1, (x.2.2.2.2.2.1.1.2.2.2.2.2.1, ())))))), (x.2.2.2.2.2.1.2.1, ())), (((x.2.2.2.2.2.2.1.1.1, (x.2.2.2.2.2.2.1.1.2.1, (x.2.2.2.2.2.2.1.1.2.2.1, (x.2.2.2.2.2.2.1.1.2.2.2.1, (x.2.2.2.2.2.2.1.1.2.2.2.2.1, (x.2.2.2.2.2.2.1.1.2.2.2.2.2.1, ())))))), (x.2.2.2.2.2.2.1.2.1, ())), ()))))))))) else (K (x.1, (x.2.1, (x.2.2.1, (x.2.2.2.1, (x.2.2.2.2.1, (((x.2.2.2.2.2.1.1.1, (x.2.2.2.2.2.1.1.2.1, (x.2.2.2.2.2.1.1.2.2.1, (x.2.2.2.2.2.1.1.2.2.2.1, (x.2.2.2.2.2.1.1.2.2.2.2.1, (x.2.2.2.2.2.1.1.2.2.2.2.2.1, ())))))), (x.2.2.2.2.2.1.2.1, ())), (((x.2.2.2.2.2.2.1.1.1, (x.2.2.2.2.2.2.1.1.2.1, (x.2.2.2.2.2.2.1.1.2.2.1, (x.2.2.2.2.2.2.1.1.2.2.2.1, (x.2.2.2.2.2.2.1.1.2.2.2.2.1, (x.2.2.2.2.2.2.1.1.2.2.2.2.2.1, ())))))), (x.2.2.2.2.2.2.1.2.1, ())), ()))))))))
def Q2.p0 (k : Nat) (x : Q2.p0.σ) : Option Q2.p0.τ := Q2.p0.r k x some
def Q2.p0.T : StT := ⟨us 1 ++ .dat .str :: .ptr 0 [] :: us 2 ++ .dat .str :: .dat (.int .i64) :: .ptr 1 [] :: .dat .str :: .dat (.int .i64) :: us 110, [.dat Qib, .dat Qic]⟩
def Q2.p0.os : List Out := [⟨.normal, [.mask [1, 2, 5, 6, 7, 8, 9], .auto 0], ⟨us 1 ++ .dat .str :: .ptr 0 [] :: us 2 ++ .dat .str :: .dat (.int .i64) :: .ptr 1 [] :: .dat .str :: .dat (.int .i64) :: us 110, [.dat Qib, .dat Qic]⟩⟩]
abbrev Q2.p1.σ : Type := ByteArray × ByteArray × Int × ByteArray × Int × Qid × Qif × Unit
abbrev Q2.p1.τ : Type := Qia 
def Q2.p1.r (k : Nat) {ρ : Type} (x : Q2.p1.σ) (K : Q2.p1.τ → Option ρ) : Option ρ :=
 bif (x.2.2.2.2.1 != (0 : Int)) then (K (x.1, (x.2.1, (x.2.2.1, ((⟨(List.toArray [])⟩ : ByteArray), (x.2.2.2.2.1, (((x.2.2.2.2.2.1.1.1, (x.2.2.2.2.2.1.1.2.1, (x.2.2.2.2.2.1.1.2.2.1, (x.2.2.2.2.2.1.1.2.2.2.1, (x.2.2.2.2.2.1.1.2.2.2.2.1, (x.2.2.2.2.2.1.1.2.2.2.2.2.1, ())))))), (x.2.2.2.2.2.1.2.1, ())), (((x.2.2.2.2.2.2.1.1.1, (x.2.2.2.2.2.2.1.1.2.1, (x.2.2.2.2.2.2.1.1.2.2.1, (x.2.2.2.2.2.2.1.1.2.2.2.1, (x.2.2.2.2.2.2.1.1.2.2.2.2.1, (x.2.2.2.2.2.2.1.1.2.2.2.2.2.1, ())))))), (x.2.2.2.2.2.2.1.2.1, ())), ())))))))) else (K (x.1, (x.2.1, (x.2.2.1, (x.2.2.2.1, (x.2.2.2.2.1, (((x.2.2.2.2.2.1.1.1, (x.2.2.2.2.2.1.1.2.1, (x.2.2.2.2.2.1.1.2.2.1, (x.2.2.2.2.2.1.1.2.2.2.1, (x.2.2.2.2.2.1.1.2.2.2.2.1, (x.2.2.2.2.2.1.1.2.2.2.2.2.1, ())))))), (x.2.2.2.2.2.1.2.1, ())), (((x.2.2.2.2.2.2.1.1.1, (x.2.2.2.2.2.2.1.1.2.1, (x.2.2.2.2.2.2.1.1.2.2.1, (x.2.2.2.2.2.2.1.1.2.2.2.1, (x.2.2.2.2.2.2.1.1.2.2.2.2.1, (x.2.2.2.2.2.2.1.1.2.2.2.2.2.1, ())))))), (x.2.2.2.2.2.2.1.2.1, ())), ()))))))))
def Q2.p1 (k : Nat) (x : Q2.p1.σ) : Option Q2.p1.τ := Q2.p1.r k x some
def Q2.p1.T : StT := ⟨us 1 ++ .dat .str :: .ptr 0 [] :: us 2 ++ .dat .str :: .dat (.int .i64) :: .ptr 1 [] :: .dat .str :: .dat (.int .i64) :: us 110, [.dat Qib, .dat Qic]⟩
def Q2.p1.os : List Out := [⟨.normal, [.mask [1, 2, 5, 6, 7, 8, 9], .auto 0], ⟨us 1 ++ .dat .str :: .ptr 0 [] :: us 2 ++ .dat .str :: .dat (.int .i64) :: .ptr 1 [] :: .dat .str :: .dat (.int .i64) :: us 110, [.dat Qib, .dat Qic]⟩⟩]
abbrev Q2.p2.σ : Type := ByteArray × Int × ByteArray × Int × Int × Int × Int × Int × Qid × Qif × Qid × Qif × Unit
abbrev Q2.p2.τ : Type := (Bool × Unit) ⊕ (ByteArray × ByteArray × Int × Qid × Qid × Unit)
def Q2.p2.r (k : Nat) {ρ : Type} (x : Q2.p2.σ) (K : Q2.p2.τ → Option ρ) : Option ρ :=
 (Q0g k ).bind fun t15 => bif (!t15.1) then (K (.inl (false, ()))) else (bif (!(Q2Y x.1 x.2.2.1)) then (K (.inl (false, ()))) else (bif (x.2.1 != x.2.2.2.1) then (K (.inl (false, ()))) else ((Q0l k ((x.2.2.2.2.2.2.2.2.1.1.1, (x.2.2.2.2.2.2.2.2.1.1.2.1, (x.2.2.2.2.2.2.2.2.1.1.2.2.1, (x.2.2.2.2.2.2.2.2.1.1.2.2.2.1, (x.2.2.2.2.2.2.2.2.1.1.2.2.2.2.1, (x.2.2.2.2.2.2.2.2.1.1.2.2.2.2.2.1, ())))))), (x.2.2.2.2.2.2.2.2.1.2.1, ()))).bind fun t16 => (Qj k ((x.2.2.2.2.2.2.2.2.2.1.1.1, (x.2.2.2.2.2.2.2.2.2.1.1.2.1, (x.2.2.2.2.2.2.2.2.2.1.1.2.2.1, (x.2.2.2.2.2.2.2.2.2.1.1.2.2.2.1, (x.2.2.2.2.2.2.2.2.2.1.1.2.2.2.2.1, (x.2.2.2.2.2.2.2.2.2.1.1.2.2.2.2.2.1, ())))))), (x.2.2.2.2.2.2.2.2.2.1.2.1, ()))).bind fun t17 => let v18 : Int := (((ByteArray.size t17.1) : Nat) : Int)
 bif (t16.1 != v18) then (K (.inl (false, ()))) else (bif (x.2.2.2.2.1 != x.2.2.2.2.2.2.1) then (K (.inl (false, ()))) else (bif (x.2.2.2.2.2.1 != x.2.2.2.2.2.2.2.1) then (K (.inl (false, ()))) else ((Qv k ((x.2.2.2.2.2.2.2.2.2.2.1.1.1, (x.2.2.2.2.2.2.2.2.2.2.1.1.2.1, (x.2.2.2.2.2.2.2.2.2.2.1.1.2.2.1, (x.2.2.2.2.2.2.2.2.2.2.1.1.2.2.2.1, (x.2.2.2.2.2.2.2.2.2.2.1.1.2.2.2.2.1, (x.2.2.2.2.2.2.2.2.2.2.1.1.2.2.2.2.2.1, ())))))), (x.2.2.2.2.2.2.2.2.2.2.1.2.1, ()))).bind fun t19 => (Qj k ((t19.1.1.1, (t19.1.1.2.1, (t19.1.1.2.2.1, (t19.1.1.2.2.2.1, (t19.1.1.2.2.2.2.1, (t19.1.1.2.2.2.2.2.1, ())))))), (t19.1.2.1, ()))).bind fun t20 => (Qj k ((x.2.2.2.2.2.2.2.2.2.2.2.1.1.1, (x.2.2.2.2.2.2.2.2.2.2.2.1.1.2.1, (x.2.2.2.2.2.2.2.2.2.2.2.1.1.2.2.1, (x.2.2.2.2.2.2.2.2.2.2.2.1.1.2.2.2.1, (x.2.2.2.2.2.2.2.2.2.2.2.1.1.2.2.2.2.1, (x.2.2.2.2.2.2.2.2.2.2.2.1.1.2.2.2.2.2.1, ())))))), (x.2.2.2.2.2.2.2.2.2.2.2.1.2.1, ()))).bind fun t21 => bif (!(Q2Y t20.1 t21.1)) then (K (.inl (false, ()))) else (K (.inr (x.1, (x.2.2.1, (x.2.2.2.1, (((x.2.2.2.2.2.2.2.2.1.1.1, (x.2.2.2.2.2.2.2.2.1.1.2.1, (x.2.2.2.2.2.2.2.2.1.1.2.2.1, (x.2.2.2.2.2.2.2.2.1.1.2.2.2.1, (x.2.2.2.2.2.2.2.2.1.1.2.2.2.2.1, (x.2.2.2.2.2.2.2.2.1.1.2.2.2.2.2.1, ())))))), (x.2.2.2.2.2.2.2.2.1.2.1, ())), (((x.2.2.2.2.2.2.2.2.2.2.1.1.1, (x.2.2.2.2.2.2.2.2.2.2.1.1.2.1, (x.2.2.2.2.2.2.2.2.2.2.1.1.2.2.1, (x.2.2.2.2.2.2.2.2.2.2.1.1.2.2.2.1, (x.2.2.2.2.2.2.2.2.2.2.1.1.2.2.2.2.1, (x.2.2.2.2.2.2.2.2.2.2.1.1.2.2.2.2.2.1, ())))))), (x.2.2.2.2.2.2.2.2.2.2.1.2.1, ())), ())))))))))))))
def Q2.p2 (k : Nat) (x : Q2.p2.σ) : Option Q2.p2.τ := Q2.p2.r k x some
def Q2.p2.T : StT := ⟨us 2 ++ .ptr 0 [] :: us 2 ++ .dat .str :: .dat (.int .i64) :: .ptr 1 [] :: .dat .str :: .dat (.int .i64) :: .ptr 2 [] :: .dat (.int .i64) :: .dat (.int .i64) :: .ptr 3 [] :: .dat (.int .i64) :: .dat (.int .i64) :: us 104, [.dat Qib, .dat Qic, .dat Qib, .dat Qic]⟩
def Q2.p2.os : List Out := [⟨.ret, [.mask [4], .auto 0], ⟨us 4 ++ .dat .bool :: us 115, []⟩⟩, ⟨.normal, [.mask [2, 5, 8, 9, 10], .auto 0], ⟨us 2 ++ .ptr 0 [] :: us 2 ++ .dat .str :: us 2 ++ .dat .str :: .dat (.int .i64) :: .ptr 1 [] :: us 109, [.dat Qib, .dat Qib]⟩⟩]
def Q2.c (k : Nat) {ρ : Type} (b : Qid) (s : ByteArray) (K : Bool × Unit → Option ρ) : Option ρ :=
 (QR k ((b.1.1, (b.1.2.1, (b.1.2.2.1, (b.1.2.2.2.1, (b.1.2.2.2.2.1, (b.1.2.2.2.2.2.1, ())))))), (b.2.1, ()))).bind fun t0 => let v1 : ByteArray := t0.1
 let v2 : Int := t0.2.1
 (Qv k ((b.1.1, (b.1.2.1, (b.1.2.2.1, (b.1.2.2.2.1, (b.1.2.2.2.2.1, (b.1.2.2.2.2.2.1, ())))))), (b.2.1, ()))).bind fun t3 => (Qj k ((t3.1.1.1, (t3.1.1.2.1, (t3.1.1.2.2.1, (t3.1.1.2.2.2.1, (t3.1.1.2.2.2.2.1, (t3.1.1.2.2.2.2.2.1, ())))))), (t3.1.2.1, ()))).bind fun t4 => (Qs k ((t3.1.1.1, (t3.1.1.2.1, (t3.1.1.2.2.1, (t3.1.1.2.2.2.1, (t3.1.1.2.2.2.2.1, (t3.1.1.2.2.2.2.2.1, ())))))), (t3.1.2.1, ()))).bind fun t5 => (Q2.p0 k (s, (v1, (v2, (t4.1, (t5.1, (((b.1.1, (b.1.2.1, (b.1.2.2.1, (b.1.2.2.2.1, (b.1.2.2.2.2.1, (b.1.2.2.2.2.2.1, ())))))), (b.2.1, ())), (((t3.1.1.1, (t3.1.1.2.1, (t3.1.1.2.2.1, (t3.1.1.2.2.2.1, (t3.1.1.2.2.2.2.1, (t3.1.1.2.2.2.2.2.1, ())))))), (t3.1.2.1, ())), ())))))))).bind fun t7 => (Q2.p1 k (t7.1, (t7.2.1, (t7.2.2.1, (t7.2.2.2.1, (t7.2.2.2.2.1, (((t7.2.2.2.2.2.1.1.1, (t7.2.2.2.2.2.1.1.2.1, (t7.2.2.2.2.2.1.1.2.2.1, (t7.2.2.2.2.2.1.1.2.2.2.1, (t7.2.2.2.2.2.1.1.2.2.2.2.1, (t7.2.2.2.2.2.1.1.2.2.2.2.2.1, ())))))), (t7.2.2.2.2.2.1.2.1, ())), (((t7.2.2.2.2.2.2.1.1.1, (t7.2.2.2.2.2.2.1.1.2.1, (t7.2.2.2.2.2.2.1.1.2.2.1, (t7.2.2.2.2.2.2.1.1.2.2.2.1, (t7.2.2.2.2.2.2.1.1.2.2.2.2.1, (t7.2.2.2.2.2.2.1.1.2.2.2.2.2.1, ())))))), (t7.2.2.2.2.2.2.1.2.1, ())), ())))))))).bind fun t8 => (QU k t8.1).bind fun t9 => let v10 : Int := t9.2.1
 let v11 : Int := t9.2.2.1
 (Q8 k t8.1).bind fun t12 => let v13 : Int := t12.2.1
 let v14 : Int := t12.2.2.1
 (Q2.p2 k (t8.2.1, (t8.2.2.1, (t8.2.2.2.1, (t8.2.2.2.2.1, (v10, (v11, (v13, (v14, (((t8.2.2.2.2.2.1.1.1, (t8.2.2.2.2.2.1.1.2.1, (t8.2.2.2.2.2.1.1.2.2.1, (t8.2.2.2.2.2.1.1.2.2.2.1, (t8.2.2.2.2.2.1.1.2.2.2.2.1, (t8.2.2.2.2.2.1.1.2.2.2.2.2.1, ())))))), (t8.2.2.2.2.2.1.2.1, ())), (((t8.2.2.2.2.2.2.1.1.1, (t8.2.2.2.2.2.2.1.1.2.1, (t8.2.2.2.2.2.2.1.1.2.2.1, (t8.2.2.2.2.2.2.1.1.2.2.2.1, (t8.2.2.2.2.2.2.1.1.2.2.2.2.1, (t8.2.2.2.2.2.2.1.1.2.2.2.2.2.1, ())))))), (t8.2.2.2.2.2.2.1.2.1, ())), (((t9.1.1.1, (t9.1.1.2.1, (t9.1.1.2.2.1, (t9.1.1.2.2.2.1, (t9.1.1.2.2.2.2.1, (t9.1.1.2.2.2.2.2.1, ())))))), (t9.1.2.1, ())), (((t12.1.1.1, (t12.1.1.2.1, (t12.1.1.2.2.1, (t12.1.1.2.2.2.1, (t12.1.1.2.2.2.2.1, (t12.1.1.2.2.2.2.2.1, ())))))), (t12.1.2.1, ())), ()))))))))))))).bind fun t22 => (match t22 with | .inl t23 => (K (t23.1, ())) | .inr (t24) => (bif (t24.2.2.1 != (0 : Int)) then (K (true, ())) else ((QU k t24.1).bind fun t25 => let v26 : Int := t25.2.1
 let v27 : Int := t25.2.2.1
 bif (v27 == (0 : Int)) then ((QK k ((t25.1.1.1, (t25.1.1.2.1, (t25.1.1.2.2.1, (t25.1.1.2.2.2.1, (t25.1.1.2.2.2.2.1, (t25.1.1.2.2.2.2.2.1, ())))))), (t25.1.2.1, ())) ((t24.2.2.2.1.1.1, (t24.2.2.2.1.1.2.1, (t24.2.2.2.1.1.2.2.1, (t24.2.2.2.1.1.2.2.2.1, (t24.2.2.2.1.1.2.2.2.2.1, (t24.2.2.2.1.1.2.2.2.2.2.1, ())))))), (t24.2.2.2.1.2.1, ()))).bind fun t28 => bif t28.1 then ((QK k ((t24.2.2.2.1.1.1, (t24.2.2.2.1.1.2.1, (t24.2.2.2.1.1.2.2.1, (t24.2.2.2.1.1.2.2.2.1, (t24.2.2.2.1.1.2.2.2.2.1, (t24.2.2.2.1.1.2.2.2.2.2.1, ())))))), (t24.2.2.2.1.2.1, ())) ((t24.2.2.2.1.1.1, (t24.2.2.2.1.1.2.1, (t24.2.2.2.1.1.2.2.1, (t24.2.2.2.1.1.2.2.2.1, (t24.2.2.2.1.1.2.2.2.2.1, (t24.2.2.2.1.1.2.2.2.2.2.1, ())))))), (t24.2.2.2.1.2.1, ()))).bind fun t29 => bif t29.1 then ((QK k ((t24.2.2.2.1.1.1, (t24.2.2.2.1.1.2.1, (t24.2.2.2.1.1.2.2.1, (t24.2.2.2.1.1.2.2.2.1, (t24.2.2.2.1.1.2.2.2.2.1, (t24.2.2.2.1.1.2.2.2.2.2.1, ())))))), (t24.2.2.2.1.2.1, ())) ((t24.2.2.2.2.1.1.1, (t24.2.2.2.2.1.1.2.1, (t24.2.2.2.2.1.1.2.2.1, (t24.2.2.2.2.1.1.2.2.2.1, (t24.2.2.2.2.1.1.2.2.2.2.1, (t24.2.2.2.2.1.1.2.2.2.2.2.1, ())))))), (t24.2.2.2.2.1.2.1, ()))).bind fun t30 => (Qv k ((t24.2.2.2.2.1.1.1, (t24.2.2.2.2.1.1.2.1, (t24.2.2.2.2.1.1.2.2.1, (t24.2.2.2.2.1.1.2.2.2.1, (t24.2.2.2.2.1.1.2.2.2.2.1, (t24.2.2.2.2.1.1.2.2.2.2.2.1, ())))))), (t24.2.2.2.2.1.2.1, ()))).bind fun t31 => (Qj k ((t31.1.1.1, (t31.1.1.2.1, (t31.1.1.2.2.1, (t31.1.1.2.2.2.1, (t31.1.1.2.2.2.2.1, (t31.1.1.2.2.2.2.2.1, ())))))), (t31.1.2.1, ()))).bind fun t32 => K ((t30.1 == (Q2Y t24.2.1 t32.1)), ())) else (K (false, ()))) else (K (false, ()))) else (K (false, ())))))
def Q2 (k : Nat) (b : Qid) (s : ByteArray) : Option (Bool × Unit) := Q2.c k b s some
def Q2.tin : List Ty := [Qib, .str]
def Q2.tout : List Ty := [.bool]
def Q2.sem (k : Nat) : QT := Q00 Q2.tin Q2.tout fun x => Q2 k x.1 x.2.1
noncomputable def Q2.ctx (k : Nat) : Ctx := ⟨Tryz.prog, gam [(15, (QR.sem k)), (16, (Qv.sem k)), (17, (Qj.sem k)), (18, (Qs.sem k)), (19, (QU.sem k)), (20, (Q8.sem k)), (9, (Q0g.sem k)), (21, (Q0l.sem k)), (22, (QK.sem k))]⟩
theorem Q2.gok (k : Nat) : ∀ f, QI Tryz.prog f ((Q2.ctx k).Γ f) := (Ql (QR.sem_ok k) (Ql (Qv.sem_ok k) (Ql (Qj.sem_ok k) (Ql (Qs.sem_ok k) (Ql (QU.sem_ok k) (Ql (Q8.sem_ok k) (Ql (Q0g.sem_ok k) (Ql (Q0l.sem_ok k) (Ql (QK.sem_ok k) Q01)))))))))
theorem Q2.p0.is (k : Nat) : Q22 (Q2.ctx k) (QP (Func.code Tryz.f4) [1, 1, 1, 1, 1, 0]) (.nil) Q2.p0.T Q2.p0.os (Q2.p0.r k) := by
 intro ρ x K; kernel_rfl
theorem Q2.p0.ok (k : Nat) : StOK 0 Tryz.prog (QP (Func.code Tryz.f4) [1, 1, 1, 1, 1, 0]) (Qp Q2.p0.T Q2.p0.os (Q2.p0 k)) :=
 Q1X (C := Q2.ctx k) (T := Q2.p0.T) (os := Q2.p0.os) (Q2.gok k) Tryz.mix (fun x K => Q2.p0.r k x K) Q1.nil (by kernel_rfl) (by kernel_rfl) (Q2.p0.is k)
theorem Q2.p1.is (k : Nat) : Q22 (Q2.ctx k) (QP (Func.code Tryz.f4) [1, 1, 1, 1, 1, 1, 0]) (.nil) Q2.p1.T Q2.p1.os (Q2.p1.r k) := by
 intro ρ x K; kernel_rfl
theorem Q2.p1.ok (k : Nat) : StOK 0 Tryz.prog (QP (Func.code Tryz.f4) [1, 1, 1, 1, 1, 1, 0]) (Qp Q2.p1.T Q2.p1.os (Q2.p1 k)) :=
 Q1X (C := Q2.ctx k) (T := Q2.p1.T) (os := Q2.p1.os) (Q2.gok k) Tryz.mix (fun x K => Q2.p1.r k x K) Q1.nil (by kernel_rfl) (by kernel_rfl) (Q2.p1.is k)
theorem Q2.p2.is (k : Nat) : Q22 (Q2.ctx k) (QP (Func.code Tryz.f4) [1, 1, 1, 1, 1, 1, 1, 1, 1, 0]) (.nil) Q2.p2.T Q2.p2.os (Q2.p2.r k) := by
 intro ρ x K; kernel_rfl
theorem Q2.p2.ok (k : Nat) : StOK 0 Tryz.prog (QP (Func.code Tryz.f4) [1, 1, 1, 1, 1, 1, 1, 1, 1, 0]) (Qp Q2.p2.T Q2.p2.os (Q2.p2 k)) :=
 Q1X (C := Q2.ctx k) (T := Q2.p2.T) (os := Q2.p2.os) (Q2.gok k) Tryz.mix (fun x K => Q2.p2.r k x K) Q1.nil (by kernel_rfl) (by kernel_rfl) (Q2.p2.is k)
def Q2.ann (k : Nat) : Ann := .node [] none (.nil) (.node [] none (.nil) (.node [] none (.nil) (.node [] none (.nil) (.node [] none (.nil) (.node [] none (.node [.mask [1, 2, 5, 6, 7, 8, 9], .auto 0] (some (Qp Q2.p0.T Q2.p0.os (Q2.p0 k))) .nil .nil) (.node [] none (.node [.mask [1, 2, 5, 6, 7, 8, 9], .auto 0] (some (Qp Q2.p1.T Q2.p1.os (Q2.p1 k))) .nil .nil) (.node [] none (.nil) (.node [] none (.nil) (.node [] none (.node [.mask [2, 5, 6, 7, 8, 9, 10, 11, 12, 13, 14, 15], .auto 0] (some (Qp Q2.p2.T Q2.p2.os (Q2.p2 k))) .nil .nil) (.nil))))))))))
theorem Q2.body (k : Nat) : Q0W (Q2.ctx k) Tryz.f4 (Func.code Tryz.f4) (Q2.ann k) Q2.tin Q2.tout (fun x K => Q2.c k x.1 x.2.1 K) := by
 intro ρ x K; kernel_rfl
theorem Q2.sem_ok (k : Nat) : QI Tryz.prog 4 (Q2.sem k) :=
 QG (C := Q2.ctx k) (Q2.gok k) Tryz.mix (c := Func.code Tryz.f4) (ann := Q2.ann k) (tin := Q2.tin) (tout := Q2.tout) (fun x K => Q2.c k x.1 x.2.1 K) Tryz.func4 (by kernel_rfl) (by kernel_rfl) (Q1.seq Q1.nil (Q1.seq Q1.nil (Q1.seq Q1.nil (Q1.seq Q1.nil (Q1.seq Q1.nil (Q1.seq (Q1.loop (by kernel_rfl) (Q2.p0.ok k)) (Q1.seq (Q1.loop (by kernel_rfl) (Q2.p1.ok k)) (Q1.seq Q1.nil (Q1.seq Q1.nil (Q1.seq (Q1.loop (by kernel_rfl) (Q2.p2.ok k)) Q1.nil)))))))))) (Q2.body k)
end Go.Am
