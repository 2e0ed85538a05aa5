/- A part of a proof: a machine of abstract values that tells what functions of the program compute, and the plain facts on them. -/
import Derived.Test.YtnibopdcpbebcaaGreatAm8
import Derived.KernelRfl
set_option linter.unusedVariables false
set_option linter.unusedSimpArgs false
set_option linter.unnecessarySimpa false
set_option linter.unusedSectionVars false
namespace Go.Am
abbrev Qhm : Type := ((Unit × (Unit × Unit)) × Unit)
abbrev Qhl : Type := (List (Int × (ByteArray × Unit)))
abbrev Qhk : Ty := (.sl (.pair (.int .u64) (.pair .str .unit)))
abbrev Qhj : Type := ( Qhm  × (List Int) × Unit)
abbrev Qhi : Type := (List (((List Int) × (Int × Unit)) × (ByteArray × (Int × Unit))))
abbrev Qhh : Ty := (.sl (.pair (.pair (.arr 32 (.int .u8)) (.pair (.int .u32) .unit)) (.pair .str (.pair (.int .u32) .unit))))
abbrev Qhg : Type := (Int × ( Qhi  × ( Qhl  × (Int × Unit))))
abbrev Qhf : Type := ( Qhg  × Unit)
abbrev Qhe : Type := ( Qhg  ×  Qhm  × (List Int) × Unit)
abbrev Qhd : Ty := (.pair (.int .u32) (.pair  Qhh  (.pair  Qhk  (.pair (.int .u32) .unit))))
end Go.Am
namespace Go.Am
open Go Go.Proofs
set_option maxRecDepth 100000
def Q0u.c (k : Nat) {ρ : Type} (n : Int) (K : Int × Unit → Option ρ) : Option ρ :=
 bif (decide (n < (253 : Int))) then (K ((1 : Int), ())) else (bif (decide (n < (65536 : Int))) then (K ((3 : Int), ())) else (bif (decide (n < (4294967296 : Int))) then (K ((5 : Int), ())) else (K ((9 : Int), ()))))
def Q0u (k : Nat) (n : Int) : Option (Int × Unit) := Q0u.c k n some
def Q0u.tin : List Ty := [(.int .u64)]
def Q0u.tout : List Ty := [(.int .i64)]
def Q0u.sem (k : Nat) : QT := Q00 Q0u.tin Q0u.tout fun x => Q0u k x.1
noncomputable def Q0u.ctx (k : Nat) : Ctx := ⟨Tryz.prog, gam []⟩
theorem Q0u.gok (k : Nat) : ∀ f, QI Tryz.prog f ((Q0u.ctx k).Γ f) := Q01
def Q0u.ann (k : Nat) : Ann := .nil
theorem Q0u.body (k : Nat) : Q0W (Q0u.ctx k) Tryz.f53 (Func.code Tryz.f53) (Q0u.ann k) Q0u.tin Q0u.tout (fun x K => Q0u.c k x.1 K) := by
 intro ρ x K; kernel_rfl
theorem Q0u.sem_ok (k : Nat) : QI Tryz.prog 53 (Q0u.sem k) :=
 QG (C := Q0u.ctx k) (Q0u.gok k) Tryz.mix (c := Func.code Tryz.f53) (ann := Q0u.ann k) (tin := Q0u.tin) (tout := Q0u.tout) (fun x K => Q0u.c k x.1 K) Tryz.func53 (by kernel_rfl) (by kernel_rfl) Q1.nil (Q0u.body k)
def Q1Q.c (k : Nat) {ρ : Type} (n : Int) (K : Int × Unit → Option ρ) : Option ρ :=
 (Q0u k (IntKind.wrap IntKind.u64 n)).bind fun t0 => let v1 : Int := (IntKind.wrap IntKind.i64 (t0.1 + n))
 K (v1, ())
def Q1Q (k : Nat) (n : Int) : Option (Int × Unit) := Q1Q.c k n some
def Q1Q.tin : List Ty := [(.int .i64)]
def Q1Q.tout : List Ty := [(.int .i64)]
def Q1Q.sem (k : Nat) : QT := Q00 Q1Q.tin Q1Q.tout fun x => Q1Q k x.1
noncomputable def Q1Q.ctx (k : Nat) : Ctx := ⟨Tryz.prog, gam [(53, (Q0u.sem k))]⟩
theorem Q1Q.gok (k : Nat) : ∀ f, QI Tryz.prog f ((Q1Q.ctx k).Γ f) := (Ql (Q0u.sem_ok k) Q01)
def Q1Q.ann (k : Nat) : Ann := .nil
theorem Q1Q.body (k : Nat) : Q0W (Q1Q.ctx k) Tryz.f87 (Func.code Tryz.f87) (Q1Q.ann k) Q1Q.tin Q1Q.tout (fun x K => Q1Q.c k x.1 K) := by
 intro ρ x K; kernel_rfl
theorem Q1Q.sem_ok (k : Nat) : QI Tryz.prog 87 (Q1Q.sem k) :=
 QG (C := Q1Q.ctx k) (Q1Q.gok k) Tryz.mix (c := Func.code Tryz.f87) (ann := Q1Q.ann k) (tin := Q1Q.tin) (tout := Q1Q.tout) (fun x K => Q1Q.c k x.1 K) Tryz.func87 (by kernel_rfl) (by kernel_rfl) Q1.nil (Q1Q.body k)
abbrev Q0w.l0.σ : Type := Int × Qhi × Int × Int × Qhg × Unit
abbrev Q0w.l0.τ : Type := (Int × Qhg × Unit)
def Q0w.l0.r (k : Nat) {ρ : Type} (x : Q0w.l0.σ) (kn : Q0w.l0.σ → Option ρ) (ke : Q0w.l0.τ → Option ρ) : Option ρ :=
 bif (decide (x.2.2.2.1 < x.2.2.1)) then (bif (decide (((0 : Int) ≤ x.2.2.2.1) ∧ (x.2.2.2.1 < (((List.length x.2.1) : Nat) : Int)))) then (let v11 : ByteArray := (List.getD x.2.1 (Int.toNat x.2.2.2.1) (((List.replicate 32 (0 : Int)), ((0 : Int), ())), (ByteArray.empty, ((0 : Int), ())))).2.1
 (Q1Q k (((ByteArray.size v11) : Nat) : Int)).bind fun t12 => let v13 : Int := (IntKind.wrap IntKind.i64 ((40 : Int) + t12.1))
 let v14 : Int := (IntKind.wrap IntKind.i64 (x.1 + v13))
 let v15 : Int := (IntKind.wrap IntKind.i64 (x.2.2.2.1 + (1 : Int)))
 kn (v14, (x.2.1, (x.2.2.1, (v15, ((x.2.2.2.2.1.1, (x.2.2.2.2.1.2.1, (x.2.2.2.2.1.2.2.1, (x.2.2.2.2.1.2.2.2.1, ())))), ())))))) else (none)) else (ke (x.1, ((x.2.2.2.2.1.1, (x.2.2.2.2.1.2.1, (x.2.2.2.2.1.2.2.1, (x.2.2.2.2.1.2.2.2.1, ())))), ())))
def Q0w.l0 (k : Nat) : Nat → Q0w.l0.σ → Option Q0w.l0.τ := Q15 (Q0w.l0.r k)
def Q0w.l0.T : StT := ⟨us 1 ++ .ptr 0 [] :: us 1 ++ .dat (.int .i64) :: us 18 ++ .dat Qhh :: .dat (.int .i64) :: .dat (.int .i64) :: us 27, [.dat Qhd]⟩
def Q0w.l0.os : List Out := [⟨(.exit 0), [.mask [1, 3], .auto 0], ⟨us 1 ++ .ptr 0 [] :: us 1 ++ .dat (.int .i64) :: us 48, [.dat Qhd]⟩⟩]
abbrev Q0w.l1.σ : Type := Int × Qhl × Int × Int × Unit
abbrev Q0w.l1.τ : Type := (Int × Unit)
def Q0w.l1.r (k : Nat) {ρ : Type} (x : Q0w.l1.σ) (kn : Q0w.l1.σ → Option ρ) (ke : Q0w.l1.τ → Option ρ) : Option ρ :=
 bif (decide (x.2.2.2.1 < x.2.2.1)) then (bif (decide (((0 : Int) ≤ x.2.2.2.1) ∧ (x.2.2.2.1 < (((List.length x.2.1) : Nat) : Int)))) then (let v19 : ByteArray := (List.getD x.2.1 (Int.toNat x.2.2.2.1) ((0 : Int), (ByteArray.empty, ()))).2.1
 (Q1Q k (((ByteArray.size v19) : Nat) : Int)).bind fun t20 => let v21 : Int := (IntKind.wrap IntKind.i64 ((8 : Int) + t20.1))
 let v22 : Int := (IntKind.wrap IntKind.i64 (x.1 + v21))
 let v23 : Int := (IntKind.wrap IntKind.i64 (x.2.2.2.1 + (1 : Int)))
 kn (v22, (x.2.1, (x.2.2.1, (v23, ()))))) else (none)) else (ke (x.1, ()))
def Q0w.l1 (k : Nat) : Nat → Q0w.l1.σ → Option Q0w.l1.τ := Q15 (Q0w.l1.r k)
def Q0w.l1.T : StT := ⟨us 3 ++ .dat (.int .i64) :: us 33 ++ .dat Qhk :: .dat (.int .i64) :: .dat (.int .i64) :: us 12, []⟩
def Q0w.l1.os : List Out := [⟨(.exit 2), [.mask [3], .auto 0], ⟨us 3 ++ .dat (.int .i64) :: us 48, []⟩⟩]
def Q0w.c (k : Nat) {ρ : Type} (t : Qhg) (K : Int × Unit → Option ρ) : Option ρ :=
 let v0 : Qhi := t.2.1
 let v1 : Int := (((List.length v0) : Nat) : Int)
 (Q0u k (IntKind.wrap IntKind.u64 v1)).bind fun t2 => let v3 : Int := (IntKind.wrap IntKind.i64 ((4 : Int) + t2.1))
 let v4 : Qhl := t.2.2.1
 let v5 : Int := (((List.length v4) : Nat) : Int)
 (Q0u k (IntKind.wrap IntKind.u64 v5)).bind fun t6 => let v7 : Int := (IntKind.wrap IntKind.i64 (v3 + t6.1))
 let v8 : Int := (IntKind.wrap IntKind.i64 (v7 + (4 : Int)))
 let v9 : Qhi := t.2.1
 let v10 : Int := (((List.length v9) : Nat) : Int)
 (Q0w.l0 k k (v8, (v9, (v10, ((0 : Int), ((t.1, (t.2.1, (t.2.2.1, (t.2.2.2.1, ())))), ())))))).bind fun t16 => let v17 : Qhl := t16.2.1.2.2.1
 let v18 : Int := (((List.length v17) : Nat) : Int)
 (Q0w.l1 k k (t16.1, (v17, (v18, ((0 : Int), ()))))).bind fun t24 => K (t24.1, ())
def Q0w (k : Nat) (t : Qhg) : Option (Int × Unit) := Q0w.c k t some
def Q0w.tin : List Ty := [Qhd]
def Q0w.tout : List Ty := [(.int .i64)]
def Q0w.sem (k : Nat) : QT := Q00 Q0w.tin Q0w.tout fun x => Q0w k x.1
noncomputable def Q0w.ctx (k : Nat) : Ctx := ⟨Tryz.prog, gam [(53, (Q0u.sem k)), (87, (Q1Q.sem k))]⟩
theorem Q0w.gok (k : Nat) : ∀ f, QI Tryz.prog f ((Q0w.ctx k).Γ f) := (Ql (Q0u.sem_ok k) (Ql (Q1Q.sem_ok k) Q01))
theorem Q0w.l0.round (k : Nat) : Q14 (Q0w.ctx k) (QP (Func.code Tryz.f54) [1, 1, 0, 1, 0, 0]) (.nil) Q0w.l0.T [.mask [1, 3, 22, 23, 24], .auto 0] Q0w.l0.os (Q0w.l0.r k) := by
 intro ρ x kn ke; kernel_rfl
theorem Q0w.l0.ok (k : Nat) : StOK 0 Tryz.prog (.loop (QP (Func.code Tryz.f54) [1, 1, 0, 1, 0, 0])) (Qp Q0w.l0.T Q0w.l0.os (Q0w.l0 k k)) :=
 Q16 (C := Q0w.ctx k) (Q0w.gok k) Tryz.mix Q1.nil (by kernel_rfl) (by kernel_rfl) (by kernel_rfl) (Q0w.l0.round k) k
theorem Q0w.l1.round (k : Nat) : Q14 (Q0w.ctx k) (QP (Func.code Tryz.f54) [1, 1, 1, 0, 1, 0, 0]) (.nil) Q0w.l1.T [.mask [3, 37, 38, 39], .auto 0] Q0w.l1.os (Q0w.l1.r k) := by
 intro ρ x kn ke; kernel_rfl
theorem Q0w.l1.ok (k : Nat) : StOK 0 Tryz.prog (.loop (QP (Func.code Tryz.f54) [1, 1, 1, 0, 1, 0, 0])) (Qp Q0w.l1.T Q0w.l1.os (Q0w.l1 k k)) :=
 Q16 (C := Q0w.ctx k) (Q0w.gok k) Tryz.mix Q1.nil (by kernel_rfl) (by kernel_rfl) (by kernel_rfl) (Q0w.l1.round k) k
def Q0w.ann (k : Nat) : Ann := .node [] none (.nil) (.node [] none (.nil) (.node [] none (.node [] none (.nil) (.node [] none (.node [.mask [1, 3, 22, 23, 24], .auto 0] (some (Qp Q0w.l0.T Q0w.l0.os (Q0w.l0 k k))) .nil .nil) (.nil))) (.node [] none (.node [] none (.nil) (.node [] none (.node [.mask [3, 37, 38, 39], .auto 0] (some (Qp Q0w.l1.T Q0w.l1.os (Q0w.l1 k k))) .nil .nil) (.nil))) (.nil))))
theorem Q0w.body (k : Nat) : Q0W (Q0w.ctx k) Tryz.f54 (Func.code Tryz.f54) (Q0w.ann k) Q0w.tin Q0w.tout (fun x K => Q0w.c k x.1 K) := by
 intro ρ x K; kernel_rfl
theorem Q0w.sem_ok (k : Nat) : QI Tryz.prog 54 (Q0w.sem k) :=
 QG (C := Q0w.ctx k) (Q0w.gok k) Tryz.mix (c := Func.code Tryz.f54) (ann := Q0w.ann k) (tin := Q0w.tin) (tout := Q0w.tout) (fun x K => Q0w.c k x.1 K) Tryz.func54 (by kernel_rfl) (by kernel_rfl) (Q1.seq Q1.nil (Q1.seq Q1.nil (Q1.seq (Q1.seq Q1.nil (Q1.block (Q1.loop (by kernel_rfl) (Q0w.l0.ok k)))) (Q1.seq (Q1.seq Q1.nil (Q1.block (Q1.loop (by kernel_rfl) (Q0w.l1.ok k)))) Q1.nil)))) (Q0w.body k)
abbrev Q0C.τ : Type := Qhj 
def Q0C.c (k : Nat) {ρ : Type}  (K : Q0C.τ → Option ρ) : Option ρ :=
 K ((((), ((), ())), ()), ([], ()))
def Q0C (k : Nat)  : Option Q0C.τ := Q0C.c k  some
def Q0C.T : Q27 := ⟨[], [], 0⟩
def Q0C.os : List Out := [⟨.ret, [.auto 0], ⟨[.ptr 0 []], [.pair (.pair (.sfp 0 [0] 111) (.pair (.vbs 1) (.dat .unit))) (.dat .unit), .vec (.int .u8)]⟩⟩]
def Q0C.sem (k : Nat) : QT := Q2j Q0C.T Q0C.os fun x => Q0C k 
noncomputable def Q0C.ctx (k : Nat) : Ctx := ⟨Tryz.prog, gam []⟩
theorem Q0C.gok (k : Nat) : ∀ f, QI Tryz.prog f ((Q0C.ctx k).Γ f) := Q01
def Q0C.ann (k : Nat) : Ann := .nil
theorem Q0C.body (k : Nat) : Q2k (Q0C.ctx k) Tryz.f23 (Func.code Tryz.f23) (Q0C.ann k) Q0C.T Q0C.os (fun x K => Q0C.c k  K) := by
 intro ρ x K; kernel_rfl
theorem Q0C.sem_ok (k : Nat) : QI Tryz.prog 23 (Q0C.sem k) :=
 Q1G (C := Q0C.ctx k) (Q0C.gok k) Tryz.mix (c := Func.code Tryz.f23) (ann := Q0C.ann k) (T := Q0C.T) (os := Q0C.os) (fun x K => Q0C.c k  K) Tryz.func23 (by kernel_rfl) (by kernel_rfl) Q1.nil (Q0C.body k) (by kernel_rfl) (by kernel_rfl) (by kernel_rfl)
abbrev Q0N.l0.σ : Type := Int × Int × Int × (List Int) × Unit
abbrev Q0N.l0.τ : Type := ((List Int) × Unit)
def Q0N.l0.r (k : Nat) {ρ : Type} (x : Q0N.l0.σ) (kn : Q0N.l0.σ → Option ρ) (ke : Q0N.l0.τ → Option ρ) : Option ρ :=
 bif (decide (x.2.2.1 < x.2.1)) then (let v1 : Int := (IntKind.wrap IntKind.i64 ((8 : Int) * x.2.2.1))
 bif (decide ((0 : Int) ≤ v1)) then (let v2 : Int := (Q2c IntKind.u64 x.1 v1)
 bif (decide (((0 : Int) ≤ x.2.2.1) ∧ (x.2.2.1 < (((List.length x.2.2.2.1) : Nat) : Int)))) then (let v3 : Int := (IntKind.wrap IntKind.i64 (x.2.2.1 + (1 : Int)))
 kn (x.1, (x.2.1, (v3, ((List.set x.2.2.2.1 (Int.toNat x.2.2.1) (IntKind.wrap IntKind.u8 v2)), ()))))) else (none)) else (none)) else (ke (x.2.2.2.1, ()))
def Q0N.l0 (k : Nat) : Nat → Q0N.l0.σ → Option Q0N.l0.τ := Q15 (Q0N.l0.r k)
def Q0N.l0.T : StT := ⟨.dat (.int .u64) :: us 4 ++ .vsl 0 :: us 4 ++ .dat (.int .i64) :: .dat (.int .i64) :: us 13, [.vec (.int .u8)]⟩
def Q0N.l0.os : List Out := [⟨(.exit 0), [.mask [5], .auto 0], ⟨us 5 ++ .vsl 0 :: us 19, [.vec (.int .u8)]⟩⟩]
def Q0N.c (k : Nat) {ρ : Type} (n : Int) (bytes : Int) (K : ByteArray × Unit → Option ρ) : Option ρ :=
 bif ((decide (((0 : Int) ≤ bytes) ∧ (bytes ≤ bytes))) && (Nat.ble ((Int.toNat bytes) * 1) 140737488355328)) then (let v0 : Int := (((List.length (List.replicate (Int.toNat bytes) (0 : Int))) : Nat) : Int)
 (Q0N.l0 k k (n, (v0, ((0 : Int), ((List.replicate (Int.toNat bytes) (0 : Int)), ()))))).bind fun t4 => K ((bytesOf t4.1), ())) else (none)
def Q0N (k : Nat) (n : Int) (bytes : Int) : Option (ByteArray × Unit) := Q0N.c k n bytes some
def Q0N.tin : List Ty := [(.int .u64), (.int .i64)]
def Q0N.tout : List Ty := [.str]
def Q0N.sem (k : Nat) : QT := Q00 Q0N.tin Q0N.tout fun x => Q0N k x.1 x.2.1
noncomputable def Q0N.ctx (k : Nat) : Ctx := ⟨Tryz.prog, gam []⟩
theorem Q0N.gok (k : Nat) : ∀ f, QI Tryz.prog f ((Q0N.ctx k).Γ f) := Q01
theorem Q0N.l0.round (k : Nat) : Q14 (Q0N.ctx k) (QP (Func.code Tryz.f56) [1, 1, 0, 1, 0, 0]) (.nil) Q0N.l0.T [.mask [0, 5, 10, 11], .auto 0] Q0N.l0.os (Q0N.l0.r k) := by
 intro ρ x kn ke; kernel_rfl
theorem Q0N.l0.ok (k : Nat) : StOK 0 Tryz.prog (.loop (QP (Func.code Tryz.f56) [1, 1, 0, 1, 0, 0])) (Qp Q0N.l0.T Q0N.l0.os (Q0N.l0 k k)) :=
 Q16 (C := Q0N.ctx k) (Q0N.gok k) Tryz.mix Q1.nil (by kernel_rfl) (by kernel_rfl) (by kernel_rfl) (Q0N.l0.round k) k
def Q0N.ann (k : Nat) : Ann := .node [] none (.nil) (.node [] none (.nil) (.node [] none (.node [] none (.nil) (.node [] none (.node [.mask [0, 5, 10, 11], .auto 0] (some (Qp Q0N.l0.T Q0N.l0.os (Q0N.l0 k k))) .nil .nil) (.nil))) (.nil)))
theorem Q0N.body (k : Nat) : Q0W (Q0N.ctx k) Tryz.f56 (Func.code Tryz.f56) (Q0N.ann k) Q0N.tin Q0N.tout (fun x K => Q0N.c k x.1 x.2.1 K) := by
 intro ρ x K; kernel_rfl
theorem Q0N.sem_ok (k : Nat) : QI Tryz.prog 56 (Q0N.sem k) :=
 QG (C := Q0N.ctx k) (Q0N.gok k) Tryz.mix (c := Func.code Tryz.f56) (ann := Q0N.ann k) (tin := Q0N.tin) (tout := Q0N.tout) (fun x K => Q0N.c k x.1 x.2.1 K) Tryz.func56 (by kernel_rfl) (by kernel_rfl) (Q1.seq Q1.nil (Q1.seq Q1.nil (Q1.seq (Q1.seq Q1.nil (Q1.block (Q1.loop (by kernel_rfl) (Q0N.l0.ok k)))) Q1.nil))) (Q0N.body k)
abbrev QE.τ : Type := (Int × Qhm × (List Int) × Unit)
def QE.c (k : Nat) {ρ : Type} (s : ByteArray) (b0 : Qhm) (b1 : (List Int)) (K : QE.τ → Option ρ) : Option ρ :=
 bif (Nat.ble (((List.length b1) + (List.length (Qq s))) * 1) 140737488355328) then (K ((((ByteArray.size s) : Nat) : Int), ((((), ((), ())), ()), ((b1 ++ (Qq s)), ())))) else (none)
def QE (k : Nat) (s : ByteArray) (b0 : Qhm) (b1 : (List Int)) : Option QE.τ := QE.c k s b0 b1 some
def QE.T : Q27 := ⟨[.ptr 0 [0], .dat .str], [.pair (.pair (.sfp 0 [0] 111) (.pair (.vbs 1) (.dat .unit))) (.dat .unit), .vec (.int .u8)], 1⟩
def QE.os : List Out := [⟨.ret, [.freeze (.slot 0), .auto 1], ⟨[.dat (.int .i64), .undef], [.pair (.pair (.sfp 0 [0] 111) (.pair (.vbs 1) (.dat .unit))) (.dat .unit), .vec (.int .u8)]⟩⟩]
def QE.sem (k : Nat) : QT := Q2j QE.T QE.os fun x => QE k x.1 x.2.1 x.2.2.1
noncomputable def QE.ctx (k : Nat) : Ctx := ⟨Tryz.prog, gam [(110, (Qf0 111 2))]⟩
theorem QE.gok (k : Nat) : ∀ f, QI Tryz.prog f ((QE.ctx k).Γ f) := (Ql Bld.copyCheck Q01)
def QE.ann (k : Nat) : Ann := .nil
theorem QE.body (k : Nat) : Q2k (QE.ctx k) Tryz.f71 (Func.code Tryz.f71) (QE.ann k) QE.T QE.os (fun x K => QE.c k x.1 x.2.1 x.2.2.1 K) := by
 intro ρ x K; kernel_rfl
theorem QE.sem_ok (k : Nat) : QI Tryz.prog 71 (QE.sem k) :=
 Q1G (C := QE.ctx k) (QE.gok k) Tryz.mix (c := Func.code Tryz.f71) (ann := QE.ann k) (T := QE.T) (os := QE.os) (fun x K => QE.c k x.1 x.2.1 x.2.2.1 K) Tryz.func71 (by kernel_rfl) (by kernel_rfl) Q1.nil (QE.body k) (by kernel_rfl) (by kernel_rfl) (by kernel_rfl)
abbrev QL.τ : Type := Qhj 
def QL.c (k : Nat) {ρ : Type} (s : ByteArray) (b0 : Qhm) (b1 : (List Int)) (K : QL.τ → Option ρ) : Option ρ :=
 (QE k s (((), ((), ())), ()) b1).bind fun t0 => K ((((), ((), ())), ()), (t0.2.2.1, ()))
def QL (k : Nat) (s : ByteArray) (b0 : Qhm) (b1 : (List Int)) : Option QL.τ := QL.c k s b0 b1 some
def QL.T : Q27 := ⟨[.ptr 0 [], .dat .str], [.pair (.pair (.sfp 0 [0] 111) (.pair (.vbs 1) (.dat .unit))) (.dat .unit), .vec (.int .u8)], 1⟩
def QL.os : List Out := [⟨.ret, [.auto 1], ⟨[], [.pair (.pair (.sfp 0 [0] 111) (.pair (.vbs 1) (.dat .unit))) (.dat .unit), .vec (.int .u8)]⟩⟩]
def QL.sem (k : Nat) : QT := Q2j QL.T QL.os fun x => QL k x.1 x.2.1 x.2.2.1
noncomputable def QL.ctx (k : Nat) : Ctx := ⟨Tryz.prog, gam [(71, (QE.sem k))]⟩
theorem QL.gok (k : Nat) : ∀ f, QI Tryz.prog f ((QL.ctx k).Γ f) := (Ql (QE.sem_ok k) Q01)
def QL.ann (k : Nat) : Ann := .nil
theorem QL.body (k : Nat) : Q2k (QL.ctx k) Tryz.f40 (Func.code Tryz.f40) (QL.ann k) QL.T QL.os (fun x K => QL.c k x.1 x.2.1 x.2.2.1 K) := by
 intro ρ x K; kernel_rfl
theorem QL.sem_ok (k : Nat) : QI Tryz.prog 40 (QL.sem k) :=
 Q1G (C := QL.ctx k) (QL.gok k) Tryz.mix (c := Func.code Tryz.f40) (ann := QL.ann k) (T := QL.T) (os := QL.os) (fun x K => QL.c k x.1 x.2.1 x.2.2.1 K) Tryz.func40 (by kernel_rfl) (by kernel_rfl) Q1.nil (QL.body k) (by kernel_rfl) (by kernel_rfl) (by kernel_rfl)
abbrev Q0h.τ : Type := Qhj 
def Q0h.c (k : Nat) {ρ : Type} (n : Int) (b0 : Qhm) (b1 : (List Int)) (K : Q0h.τ → Option ρ) : Option ρ :=
 (Q0N k (IntKind.wrap IntKind.u64 n) (4 : Int)).bind fun t0 => (QL k t0.1 (((), ((), ())), ()) b1).bind fun t1 => K ((((), ((), ())), ()), (t1.2.1, ()))
def Q0h (k : Nat) (n : Int) (b0 : Qhm) (b1 : (List Int)) : Option Q0h.τ := Q0h.c k n b0 b1 some
def Q0h.T : Q27 := ⟨[.ptr 0 [], .dat (.int .u32)], [.pair (.pair (.sfp 0 [0] 111) (.pair (.vbs 1) (.dat .unit))) (.dat .unit), .vec (.int .u8)], 1⟩
def Q0h.os : List Out := [⟨.ret, [.auto 1], ⟨[], [.pair (.pair (.sfp 0 [0] 111) (.pair (.vbs 1) (.dat .unit))) (.dat .unit), .vec (.int .u8)]⟩⟩]
def Q0h.sem (k : Nat) : QT := Q2j Q0h.T Q0h.os fun x => Q0h k x.1 x.2.1 x.2.2.1
noncomputable def Q0h.ctx (k : Nat) : Ctx := ⟨Tryz.prog, gam [(56, (Q0N.sem k)), (40, (QL.sem k))]⟩
theorem Q0h.gok (k : Nat) : ∀ f, QI Tryz.prog f ((Q0h.ctx k).Γ f) := (Ql (Q0N.sem_ok k) (Ql (QL.sem_ok k) Q01))
def Q0h.ann (k : Nat) : Ann := .nil
theorem Q0h.body (k : Nat) : Q2k (Q0h.ctx k) Tryz.f24 (Func.code Tryz.f24) (Q0h.ann k) Q0h.T Q0h.os (fun x K => Q0h.c k x.1 x.2.1 x.2.2.1 K) := by
 intro ρ x K; kernel_rfl
theorem Q0h.sem_ok (k : Nat) : QI Tryz.prog 24 (Q0h.sem k) :=
 Q1G (C := Q0h.ctx k) (Q0h.gok k) Tryz.mix (c := Func.code Tryz.f24) (ann := Q0h.ann k) (T := Q0h.T) (os := Q0h.os) (fun x K => Q0h.c k x.1 x.2.1 x.2.2.1 K) Tryz.func24 (by kernel_rfl) (by kernel_rfl) Q1.nil (Q0h.body k) (by kernel_rfl) (by kernel_rfl) (by kernel_rfl)
def Q1x.c (k : Nat) {ρ : Type} (n : Int) (K : ByteArray × Unit → Option ρ) : Option ρ :=
 (Q0u k n).bind fun t0 => bif (t0.1 == (1 : Int)) then ((Q0N k n (1 : Int)).bind fun t1 => K (t1.1, ())) else (bif (t0.1 == (3 : Int)) then ((Q0N k (253 : Int) (1 : Int)).bind fun t2 => (Q0N k n (2 : Int)).bind fun t3 => bif (Nat.ble ((ByteArray.size t2.1) + (ByteArray.size t3.1)) 9223372036854775807) then (let v4 : ByteArray := (t2.1 ++ t3.1)
 K (v4, ())) else (none)) else (bif (t0.1 == (5 : Int)) then ((Q0N k (254 : Int) (1 : Int)).bind fun t5 => (Q0N k n (4 : Int)).bind fun t6 => bif (Nat.ble ((ByteArray.size t5.1) + (ByteArray.size t6.1)) 9223372036854775807) then (let v7 : ByteArray := (t5.1 ++ t6.1)
 K (v7, ())) else (none)) else ((Q0N k (255 : Int) (1 : Int)).bind fun t8 => (Q0N k n (8 : Int)).bind fun t9 => bif (Nat.ble ((ByteArray.size t8.1) + (ByteArray.size t9.1)) 9223372036854775807) then (let v10 : ByteArray := (t8.1 ++ t9.1)
 K (v10, ())) else (none))))
def Q1x (k : Nat) (n : Int) : Option (ByteArray × Unit) := Q1x.c k n some
def Q1x.tin : List Ty := [(.int .u64)]
def Q1x.tout : List Ty := [.str]
def Q1x.sem (k : Nat) : QT := Q00 Q1x.tin Q1x.tout fun x => Q1x k x.1
noncomputable def Q1x.ctx (k : Nat) : Ctx := ⟨Tryz.prog, gam [(53, (Q0u.sem k)), (56, (Q0N.sem k))]⟩
theorem Q1x.gok (k : Nat) : ∀ f, QI Tryz.prog f ((Q1x.ctx k).Γ f) := (Ql (Q0u.sem_ok k) (Ql (Q0N.sem_ok k) Q01))
def Q1x.ann (k : Nat) : Ann := .nil
theorem Q1x.body (k : Nat) : Q0W (Q1x.ctx k) Tryz.f72 (Func.code Tryz.f72) (Q1x.ann k) Q1x.tin Q1x.tout (fun x K => Q1x.c k x.1 K) := by
 intro ρ x K; kernel_rfl
theorem Q1x.sem_ok (k : Nat) : QI Tryz.prog 72 (Q1x.sem k) :=
 QG (C := Q1x.ctx k) (Q1x.gok k) Tryz.mix (c := Func.code Tryz.f72) (ann := Q1x.ann k) (tin := Q1x.tin) (tout := Q1x.tout) (fun x K => Q1x.c k x.1 K) Tryz.func72 (by kernel_rfl) (by kernel_rfl) Q1.nil (Q1x.body k)
abbrev Q09.τ : Type := Qhj 
def Q09.c (k : Nat) {ρ : Type} (n : Int) (b0 : Qhm) (b1 : (List Int)) (K : Q09.τ → Option ρ) : Option ρ :=
 (Q1x k n).bind fun t0 => (QL k t0.1 (((), ((), ())), ()) b1).bind fun t1 => K ((((), ((), ())), ()), (t1.2.1, ()))
def Q09 (k : Nat) (n : Int) (b0 : Qhm) (b1 : (List Int)) : Option Q09.τ := Q09.c k n b0 b1 some
def Q09.T : Q27 := ⟨[.ptr 0 [], .dat (.int .u64)], [.pair (.pair (.sfp 0 [0] 111) (.pair (.vbs 1) (.dat .unit))) (.dat .unit), .vec (.int .u8)], 1⟩
def Q09.os : List Out := [⟨.ret, [.auto 1], ⟨[], [.pair (.pair (.sfp 0 [0] 111) (.pair (.vbs 1) (.dat .unit))) (.dat .unit), .vec (.int .u8)]⟩⟩]
def Q09.sem (k : Nat) : QT := Q2j Q09.T Q09.os fun x => Q09 k x.1 x.2.1 x.2.2.1
noncomputable def Q09.ctx (k : Nat) : Ctx := ⟨Tryz.prog, gam [(72, (Q1x.sem k)), (40, (QL.sem k))]⟩
theorem Q09.gok (k : Nat) : ∀ f, QI Tryz.prog f ((Q09.ctx k).Γ f) := (Ql (Q1x.sem_ok k) (Ql (QL.sem_ok k) Q01))
def Q09.ann (k : Nat) : Ann := .nil
theorem Q09.body (k : Nat) : Q2k (Q09.ctx k) Tryz.f41 (Func.code Tryz.f41) (Q09.ann k) Q09.T Q09.os (fun x K => Q09.c k x.1 x.2.1 x.2.2.1 K) := by
 intro ρ x K; kernel_rfl
theorem Q09.sem_ok (k : Nat) : QI Tryz.prog 41 (Q09.sem k) :=
 Q1G (C := Q09.ctx k) (Q09.gok k) Tryz.mix (c := Func.code Tryz.f41) (ann := Q09.ann k) (T := Q09.T) (os := Q09.os) (fun x K => Q09.c k x.1 x.2.1 x.2.2.1 K) Tryz.func41 (by kernel_rfl) (by kernel_rfl) Q1.nil (Q09.body k) (by kernel_rfl) (by kernel_rfl) (by kernel_rfl)
abbrev Q0s.τ : Type := Qhj 
def Q0s.c (k : Nat) {ρ : Type} (h : (List Int)) (b0 : Qhm) (b1 : (List Int)) (K : Q0s.τ → Option ρ) : Option ρ :=
 let v0 : ByteArray := (bytesOf (List.take 32 (List.drop 0 h)))
 (QL k v0 (((), ((), ())), ()) b1).bind fun t1 => K ((((), ((), ())), ()), (t1.2.1, ()))
def Q0s (k : Nat) (h : (List Int)) (b0 : Qhm) (b1 : (List Int)) : Option Q0s.τ := Q0s.c k h b0 b1 some
def Q0s.T : Q27 := ⟨[.ptr 0 [], .dat (.arr 32 (.int .u8))], [.pair (.pair (.sfp 0 [0] 111) (.pair (.vbs 1) (.dat .unit))) (.dat .unit), .vec (.int .u8)], 1⟩
def Q0s.os : List Out := [⟨.ret, [.auto 1], ⟨[], [.pair (.pair (.sfp 0 [0] 111) (.pair (.vbs 1) (.dat .unit))) (.dat .unit), .vec (.int .u8)]⟩⟩]
def Q0s.sem (k : Nat) : QT := Q2j Q0s.T Q0s.os fun x => Q0s k x.1 x.2.1 x.2.2.1
noncomputable def Q0s.ctx (k : Nat) : Ctx := ⟨Tryz.prog, gam [(40, (QL.sem k))]⟩
theorem Q0s.gok (k : Nat) : ∀ f, QI Tryz.prog f ((Q0s.ctx k).Γ f) := (Ql (QL.sem_ok k) Q01)
def Q0s.ann (k : Nat) : Ann := .nil
theorem Q0s.body (k : Nat) : Q2k (Q0s.ctx k) Tryz.f25 (Func.code Tryz.f25) (Q0s.ann k) Q0s.T Q0s.os (fun x K => Q0s.c k x.1 x.2.1 x.2.2.1 K) := by
 intro ρ x K; kernel_rfl
theorem Q0s.sem_ok (k : Nat) : QI Tryz.prog 25 (Q0s.sem k) :=
 Q1G (C := Q0s.ctx k) (Q0s.gok k) Tryz.mix (c := Func.code Tryz.f25) (ann := Q0s.ann k) (T := Q0s.T) (os := Q0s.os) (fun x K => Q0s.c k x.1 x.2.1 x.2.2.1 K) Tryz.func25 (by kernel_rfl) (by kernel_rfl) Q1.nil (Q0s.body k) (by kernel_rfl) (by kernel_rfl) (by kernel_rfl)
abbrev Q0o.τ : Type := Qhj 
def Q0o.c (k : Nat) {ρ : Type} (s : ByteArray) (b0 : Qhm) (b1 : (List Int)) (K : Q0o.τ → Option ρ) : Option ρ :=
 (Q09 k (IntKind.wrap IntKind.u64 (((ByteArray.size s) : Nat) : Int)) (((), ((), ())), ()) b1).bind fun t0 => (QL k s (((), ((), ())), ()) t0.2.1).bind fun t1 => K ((((), ((), ())), ()), (t1.2.1, ()))
def Q0o (k : Nat) (s : ByteArray) (b0 : Qhm) (b1 : (List Int)) : Option Q0o.τ := Q0o.c k s b0 b1 some
def Q0o.T : Q27 := ⟨[.ptr 0 [], .dat .str], [.pair (.pair (.sfp 0 [0] 111) (.pair (.vbs 1) (.dat .unit))) (.dat .unit), .vec (.int .u8)], 1⟩
def Q0o.os : List Out := [⟨.ret, [.auto 1], ⟨[], [.pair (.pair (.sfp 0 [0] 111) (.pair (.vbs 1) (.dat .unit))) (.dat .unit), .vec (.int .u8)]⟩⟩]
def Q0o.sem (k : Nat) : QT := Q2j Q0o.T Q0o.os fun x => Q0o k x.1 x.2.1 x.2.2.1
noncomputable def Q0o.ctx (k : Nat) : Ctx := ⟨Tryz.prog, gam [(41, (Q09.sem k)), (40, (QL.sem k))]⟩
theorem Q0o.gok (k : Nat) : ∀ f, QI Tryz.prog f ((Q0o.ctx k).Γ f) := (Ql (Q09.sem_ok k) (Ql (QL.sem_ok k) Q01))
def Q0o.ann (k : Nat) : Ann := .nil
theorem Q0o.body (k : Nat) : Q2k (Q0o.ctx k) Tryz.f73 (Func.code Tryz.f73) (Q0o.ann k) Q0o.T Q0o.os (fun x K => Q0o.c k x.1 x.2.1 x.2.2.1 K) := by
 intro ρ x K; kernel_rfl
theorem Q0o.sem_ok (k : Nat) : QI Tryz.prog 73 (Q0o.sem k) :=
 Q1G (C := Q0o.ctx k) (Q0o.gok k) Tryz.mix (c := Func.code Tryz.f73) (ann := Q0o.ann k) (T := Q0o.T) (os := Q0o.os) (fun x K => Q0o.c k x.1 x.2.1 x.2.2.1 K) Tryz.func73 (by kernel_rfl) (by kernel_rfl) Q1.nil (Q0o.body k) (by kernel_rfl) (by kernel_rfl) (by kernel_rfl)
abbrev Q0R.τ : Type := Qhj 
def Q0R.c (k : Nat) {ρ : Type} (n : Int) (b0 : Qhm) (b1 : (List Int)) (K : Q0R.τ → Option ρ) : Option ρ :=
 (Q0N k n (8 : Int)).bind fun t0 => (QL k t0.1 (((), ((), ())), ()) b1).bind fun t1 => K ((((), ((), ())), ()), (t1.2.1, ()))
def Q0R (k : Nat) (n : Int) (b0 : Qhm) (b1 : (List Int)) : Option Q0R.τ := Q0R.c k n b0 b1 some
def Q0R.T : Q27 := ⟨[.ptr 0 [], .dat (.int .u64)], [.pair (.pair (.sfp 0 [0] 111) (.pair (.vbs 1) (.dat .unit))) (.dat .unit), .vec (.int .u8)], 1⟩
def Q0R.os : List Out := [⟨.ret, [.auto 1], ⟨[], [.pair (.pair (.sfp 0 [0] 111) (.pair (.vbs 1) (.dat .unit))) (.dat .unit), .vec (.int .u8)]⟩⟩]
def Q0R.sem (k : Nat) : QT := Q2j Q0R.T Q0R.os fun x => Q0R k x.1 x.2.1 x.2.2.1
noncomputable def Q0R.ctx (k : Nat) : Ctx := ⟨Tryz.prog, gam [(56, (Q0N.sem k)), (40, (QL.sem k))]⟩
theorem Q0R.gok (k : Nat) : ∀ f, QI Tryz.prog f ((Q0R.ctx k).Γ f) := (Ql (Q0N.sem_ok k) (Ql (QL.sem_ok k) Q01))
def Q0R.ann (k : Nat) : Ann := .nil
theorem Q0R.body (k : Nat) : Q2k (Q0R.ctx k) Tryz.f74 (Func.code Tryz.f74) (Q0R.ann k) Q0R.T Q0R.os (fun x K => Q0R.c k x.1 x.2.1 x.2.2.1 K) := by
 intro ρ x K; kernel_rfl
theorem Q0R.sem_ok (k : Nat) : QI Tryz.prog 74 (Q0R.sem k) :=
 Q1G (C := Q0R.ctx k) (Q0R.gok k) Tryz.mix (c := Func.code Tryz.f74) (ann := Q0R.ann k) (T := Q0R.T) (os := Q0R.os) (fun x K => Q0R.c k x.1 x.2.1 x.2.2.1 K) Tryz.func74 (by kernel_rfl) (by kernel_rfl) Q1.nil (Q0R.body k) (by kernel_rfl) (by kernel_rfl) (by kernel_rfl)
abbrev Q06.τ : Type := (ByteArray × Unit)
def Q06.c (k : Nat) {ρ : Type} (b0 : Qhm) (b1 : (List Int)) (K : Q06.τ → Option ρ) : Option ρ :=
 bif (Nat.ble (List.length b1) 9223372036854775807) then (K ((bytesOf b1), ())) else (none)
def Q06 (k : Nat) (b0 : Qhm) (b1 : (List Int)) : Option Q06.τ := Q06.c k b0 b1 some
def Q06.T : Q27 := ⟨[.ptr 0 []], [.pair (.pair (.sfp 0 [0] 111) (.pair (.vbs 1) (.dat .unit))) (.dat .unit), .vec (.int .u8)], 1⟩
def Q06.os : List Out := [⟨.ret, [.freeze (.slot 0), .auto 1], ⟨[.dat .str], [.undef]⟩⟩]
def Q06.sem (k : Nat) : QT := Q2j Q06.T Q06.os fun x => Q06 k x.1 x.2.1
noncomputable def Q06.ctx (k : Nat) : Ctx := ⟨Tryz.prog, gam [(57, QcV)]⟩
theorem Q06.gok (k : Nat) : ∀ f, QI Tryz.prog f ((Q06.ctx k).Γ f) := (Ql Bld.string Q01)
def Q06.ann (k : Nat) : Ann := .nil
theorem Q06.body (k : Nat) : Q2k (Q06.ctx k) Tryz.f26 (Func.code Tryz.f26) (Q06.ann k) Q06.T Q06.os (fun x K => Q06.c k x.1 x.2.1 K) := by
 intro ρ x K; kernel_rfl
theorem Q06.sem_ok (k : Nat) : QI Tryz.prog 26 (Q06.sem k) :=
 Q1G (C := Q06.ctx k) (Q06.gok k) Tryz.mix (c := Func.code Tryz.f26) (ann := Q06.ann k) (T := Q06.T) (os := Q06.os) (fun x K => Q06.c k x.1 x.2.1 K) Tryz.func26 (by kernel_rfl) (by kernel_rfl) Q1.nil (Q06.body k) (by kernel_rfl) (by kernel_rfl) (by kernel_rfl)
abbrev Qm.l0.σ : Type := Qhi × Int × Int × Qhg × Unit
abbrev Qm.l0.τ : Type := (ByteArray × Int × Unit) ⊕ Qhf 
def Qm.l0.r (k : Nat) {ρ : Type} (x : Qm.l0.σ) (kn : Qm.l0.σ → Option ρ) (ke : Qm.l0.τ → Option ρ) : Option ρ :=
 bif (decide (x.2.2.1 < x.2.1)) then (bif (decide (((0 : Int) ≤ x.2.2.1) ∧ (x.2.2.1 < (((List.length x.1) : Nat) : Int)))) then (let v2 : ByteArray := (List.getD x.1 (Int.toNat x.2.2.1) (((List.replicate 32 (0 : Int)), ((0 : Int), ())), (ByteArray.empty, ((0 : Int), ())))).2.1
 bif (decide ((((ByteArray.size v2) : Nat) : Int) > (520 : Int))) then (ke (.inl ((⟨(List.toArray [])⟩ : ByteArray), ((100 : Int), ())))) else (let v3 : Int := (IntKind.wrap IntKind.i64 (x.2.2.1 + (1 : Int)))
 kn (x.1, (x.2.1, (v3, ((x.2.2.2.1.1, (x.2.2.2.1.2.1, (x.2.2.2.1.2.2.1, (x.2.2.2.1.2.2.2.1, ())))), ())))))) else (none)) else (ke (.inr ((x.2.2.2.1.1, (x.2.2.2.1.2.1, (x.2.2.2.1.2.2.1, (x.2.2.2.1.2.2.2.1, ())))), ())))
def Qm.l0 (k : Nat) : Nat → Qm.l0.σ → Option Qm.l0.τ := Q15 (Qm.l0.r k)
def Qm.l0.T : StT := ⟨us 1 ++ .ptr 0 [] :: us 12 ++ .dat Qhh :: .dat (.int .i64) :: .dat (.int .i64) :: us 88, [.dat Qhd]⟩
def Qm.l0.os : List Out := [⟨.ret, [.mask [2, 3], .auto 0], ⟨us 2 ++ .dat .str :: .dat (.int .i64) :: us 101, []⟩⟩, ⟨(.exit 0), [.mask [1], .auto 0], ⟨us 1 ++ .ptr 0 [] :: us 103, [.dat Qhd]⟩⟩]
abbrev Qm.l1.σ : Type := Qhl × Int × Int × Qhg × Unit
abbrev Qm.l1.τ : Type := (ByteArray × Int × Unit) ⊕ Qhf 
def Qm.l1.r (k : Nat) {ρ : Type} (x : Qm.l1.σ) (kn : Qm.l1.σ → Option ρ) (ke : Qm.l1.τ → Option ρ) : Option ρ :=
 bif (decide (x.2.2.1 < x.2.1)) then (bif (decide (((0 : Int) ≤ x.2.2.1) ∧ (x.2.2.1 < (((List.length x.1) : Nat) : Int)))) then (let v9 : ByteArray := (List.getD x.1 (Int.toNat x.2.2.1) ((0 : Int), (ByteArray.empty, ()))).2.1
 bif (decide ((((ByteArray.size v9) : Nat) : Int) > (520 : Int))) then (ke (.inl ((⟨(List.toArray [])⟩ : ByteArray), ((100 : Int), ())))) else (let v10 : Int := (IntKind.wrap IntKind.i64 (x.2.2.1 + (1 : Int)))
 kn (x.1, (x.2.1, (v10, ((x.2.2.2.1.1, (x.2.2.2.1.2.1, (x.2.2.2.1.2.2.1, (x.2.2.2.1.2.2.2.1, ())))), ())))))) else (none)) else (ke (.inr ((x.2.2.2.1.1, (x.2.2.2.1.2.1, (x.2.2.2.1.2.2.1, (x.2.2.2.1.2.2.2.1, ())))), ())))
def Qm.l1 (k : Nat) : Nat → Qm.l1.σ → Option Qm.l1.τ := Q15 (Qm.l1.r k)
def Qm.l1.T : StT := ⟨us 1 ++ .ptr 0 [] :: us 24 ++ .dat Qhk :: .dat (.int .i64) :: .dat (.int .i64) :: us 76, [.dat Qhd]⟩
def Qm.l1.os : List Out := [⟨.ret, [.mask [2, 3], .auto 0], ⟨us 2 ++ .dat .str :: .dat (.int .i64) :: us 101, []⟩⟩, ⟨(.exit 2), [.mask [1], .auto 0], ⟨us 1 ++ .ptr 0 [] :: us 103, [.dat Qhd]⟩⟩]
abbrev Qm.l2.σ : Type := Qhi × Int × Int × Qhg × Qhm × (List Int) × Unit
abbrev Qm.l2.τ : Type := Qhe 
def Qm.l2.r (k : Nat) {ρ : Type} (x : Qm.l2.σ) (kn : Qm.l2.σ → Option ρ) (ke : Qm.l2.τ → Option ρ) : Option ρ :=
 bif (decide (x.2.2.1 < x.2.1)) then (bif (decide (((0 : Int) ≤ x.2.2.1) ∧ (x.2.2.1 < (((List.length x.1) : Nat) : Int)))) then (let v23 : (List Int) := (List.getD x.1 (Int.toNat x.2.2.1) (((List.replicate 32 (0 : Int)), ((0 : Int), ())), (ByteArray.empty, ((0 : Int), ())))).1.1
 (Q0s k v23 (((), ((), ())), ()) x.2.2.2.2.2.1).bind fun t24 => let v25 : Int := (List.getD x.1 (Int.toNat x.2.2.1) (((List.replicate 32 (0 : Int)), ((0 : Int), ())), (ByteArray.empty, ((0 : Int), ())))).1.2.1
 (Q0h k v25 (((), ((), ())), ()) t24.2.1).bind fun t26 => let v27 : ByteArray := (List.getD x.1 (Int.toNat x.2.2.1) (((List.replicate 32 (0 : Int)), ((0 : Int), ())), (ByteArray.empty, ((0 : Int), ())))).2.1
 (Q0o k v27 (((), ((), ())), ()) t26.2.1).bind fun t28 => let v29 : Int := (List.getD x.1 (Int.toNat x.2.2.1) (((List.replicate 32 (0 : Int)), ((0 : Int), ())), (ByteArray.empty, ((0 : Int), ())))).2.2.1
 (Q0h k v29 (((), ((), ())), ()) t28.2.1).bind fun t30 => let v31 : Int := (IntKind.wrap IntKind.i64 (x.2.2.1 + (1 : Int)))
 kn (x.1, (x.2.1, (v31, ((x.2.2.2.1.1, (x.2.2.2.1.2.1, (x.2.2.2.1.2.2.1, (x.2.2.2.1.2.2.2.1, ())))), ((((), ((), ())), ()), (t30.2.1, ()))))))) else (none)) else (ke ((x.2.2.2.1.1, (x.2.2.2.1.2.1, (x.2.2.2.1.2.2.1, (x.2.2.2.1.2.2.2.1, ())))), ((((), ((), ())), ()), (x.2.2.2.2.2.1, ()))))
def Qm.l2 (k : Nat) : Nat → Qm.l2.σ → Option Qm.l2.τ := Q15 (Qm.l2.r k)
def Qm.l2.T : StT := ⟨us 1 ++ .ptr 0 [] :: us 6 ++ .ptr 1 [] :: us 43 ++ .dat Qhh :: .dat (.int .i64) :: .dat (.int .i64) :: us 50, [.dat Qhd, .pair (.pair (.sfp 1 [0] 111) (.pair (.vbs 2) (.dat .unit))) (.dat .unit), .vec (.int .u8)]⟩
def Qm.l2.os : List Out := [⟨(.exit 4), [.mask [1, 8], .auto 0], ⟨us 1 ++ .ptr 0 [] :: us 6 ++ .ptr 1 [] :: us 96, [.dat Qhd, .pair (.pair (.sfp 1 [0] 111) (.pair (.vbs 2) (.dat .unit))) (.dat .unit), .vec (.int .u8)]⟩⟩]
abbrev Qm.l3.σ : Type := Qhl × Int × Int × Qhg × Qhm × (List Int) × Unit
abbrev Qm.l3.τ : Type := Qhe 
def Qm.l3.r (k : Nat) {ρ : Type} (x : Qm.l3.σ) (kn : Qm.l3.σ → Option ρ) (ke : Qm.l3.τ → Option ρ) : Option ρ :=
 bif (decide (x.2.2.1 < x.2.1)) then (bif (decide (((0 : Int) ≤ x.2.2.1) ∧ (x.2.2.1 < (((List.length x.1) : Nat) : Int)))) then (let v38 : Int := (List.getD x.1 (Int.toNat x.2.2.1) ((0 : Int), (ByteArray.empty, ()))).1
 (Q0R k v38 (((), ((), ())), ()) x.2.2.2.2.2.1).bind fun t39 => let v40 : ByteArray := (List.getD x.1 (Int.toNat x.2.2.1) ((0 : Int), (ByteArray.empty, ()))).2.1
 (Q0o k v40 (((), ((), ())), ()) t39.2.1).bind fun t41 => let v42 : Int := (IntKind.wrap IntKind.i64 (x.2.2.1 + (1 : Int)))
 kn (x.1, (x.2.1, (v42, ((x.2.2.2.1.1, (x.2.2.2.1.2.1, (x.2.2.2.1.2.2.1, (x.2.2.2.1.2.2.2.1, ())))), ((((), ((), ())), ()), (t41.2.1, ()))))))) else (none)) else (ke ((x.2.2.2.1.1, (x.2.2.2.1.2.1, (x.2.2.2.1.2.2.1, (x.2.2.2.1.2.2.2.1, ())))), ((((), ((), ())), ()), (x.2.2.2.2.2.1, ()))))
def Qm.l3 (k : Nat) : Nat → Qm.l3.σ → Option Qm.l3.τ := Q15 (Qm.l3.r k)
def Qm.l3.T : StT := ⟨us 1 ++ .ptr 0 [] :: us 6 ++ .ptr 1 [] :: us 75 ++ .dat Qhk :: .dat (.int .i64) :: .dat (.int .i64) :: us 18, [.dat Qhd, .pair (.pair (.sfp 1 [0] 111) (.pair (.vbs 2) (.dat .unit))) (.dat .unit), .vec (.int .u8)]⟩
def Qm.l3.os : List Out := [⟨(.exit 6), [.mask [1, 8], .auto 0], ⟨us 1 ++ .ptr 0 [] :: us 6 ++ .ptr 1 [] :: us 96, [.dat Qhd, .pair (.pair (.sfp 1 [0] 111) (.pair (.vbs 2) (.dat .unit))) (.dat .unit), .vec (.int .u8)]⟩⟩]
def Qm.c (k : Nat) {ρ : Type} (t : Qhg) (K : ByteArray × Int × Unit → Option ρ) : Option ρ :=
 let v0 : Qhi := t.2.1
 let v1 : Int := (((List.length v0) : Nat) : Int)
 (Qm.l0 k k (v0, (v1, ((0 : Int), ((t.1, (t.2.1, (t.2.2.1, (t.2.2.2.1, ())))), ()))))).bind fun t4 => (match t4 with | .inl t5 => (K (t5.1, (t5.2.1, ()))) | .inr (t6) => (let v7 : Qhl := t6.1.2.2.1
 let v8 : Int := (((List.length v7) : Nat) : Int)
 (Qm.l1 k k (v7, (v8, ((0 : Int), ((t6.1.1, (t6.1.2.1, (t6.1.2.2.1, (t6.1.2.2.2.1, ())))), ()))))).bind fun t11 => (match t11 with | .inl t12 => (K (t12.1, (t12.2.1, ()))) | .inr (t13) => ((Q0w k (t13.1.1, (t13.1.2.1, (t13.1.2.2.1, (t13.1.2.2.2.1, ()))))).bind fun t14 => bif (decide (t14.1 > (4096 : Int))) then (K ((⟨(List.toArray [])⟩ : ByteArray), ((101 : Int), ()))) else ((Q0C k ).bind fun t15 => let v16 : Int := t13.1.1
 (Q0h k v16 (((), ((), ())), ()) t15.2.1).bind fun t17 => let v18 : Qhi := t13.1.2.1
 let v19 : Int := (((List.length v18) : Nat) : Int)
 (Q09 k (IntKind.wrap IntKind.u64 v19) (((), ((), ())), ()) t17.2.1).bind fun t20 => let v21 : Qhi := t13.1.2.1
 let v22 : Int := (((List.length v21) : Nat) : Int)
 (Qm.l2 k k (v21, (v22, ((0 : Int), ((t13.1.1, (t13.1.2.1, (t13.1.2.2.1, (t13.1.2.2.2.1, ())))), ((((), ((), ())), ()), (t20.2.1, ()))))))).bind fun t32 => let v33 : Qhl := t32.1.2.2.1
 let v34 : Int := (((List.length v33) : Nat) : Int)
 (Q09 k (IntKind.wrap IntKind.u64 v34) (((), ((), ())), ()) t32.2.2.1).bind fun t35 => let v36 : Qhl := t32.1.2.2.1
 let v37 : Int := (((List.length v36) : Nat) : Int)
 (Qm.l3 k k (v36, (v37, ((0 : Int), ((t32.1.1, (t32.1.2.1, (t32.1.2.2.1, (t32.1.2.2.2.1, ())))), ((((), ((), ())), ()), (t35.2.1, ()))))))).bind fun t43 => let v44 : Int := t43.1.2.2.2.1
 (Q0h k v44 (((), ((), ())), ()) t43.2.2.1).bind fun t45 => (Q06 k (((), ((), ())), ()) t45.2.1).bind fun t46 => K (t46.1, ((0 : Int), ())))))))
def Qm (k : Nat) (t : Qhg) : Option (ByteArray × Int × Unit) := Qm.c k t some
def Qm.tin : List Ty := [Qhd]
def Qm.tout : List Ty := [.str, (.int .i64)]
def Qm.sem (k : Nat) : QT := Q00 Qm.tin Qm.tout fun x => Qm k x.1
noncomputable def Qm.ctx (k : Nat) : Ctx := ⟨Tryz.prog, gam [(54, (Q0w.sem k)), (23, (Q0C.sem k)), (24, (Q0h.sem k)), (41, (Q09.sem k)), (25, (Q0s.sem k)), (73, (Q0o.sem k)), (74, (Q0R.sem k)), (26, (Q06.sem k))]⟩
theorem Qm.gok (k : Nat) : ∀ f, QI Tryz.prog f ((Qm.ctx k).Γ f) := (Ql (Q0w.sem_ok k) (Ql (Q0C.sem_ok k) (Ql (Q0h.sem_ok k) (Ql (Q09.sem_ok k) (Ql (Q0s.sem_ok k) (Ql (Q0o.sem_ok k) (Ql (Q0R.sem_ok k) (Ql (Q06.sem_ok k) Q01))))))))
theorem Qm.l0.round (k : Nat) : Q14 (Qm.ctx k) (QP (Func.code Tryz.f42) [1, 0, 1, 0, 0]) (.nil) Qm.l0.T [.mask [1, 14, 15, 16], .auto 0] Qm.l0.os (Qm.l0.r k) := by
 intro ρ x kn ke; kernel_rfl
theorem Qm.l0.ok (k : Nat) : StOK 0 Tryz.prog (.loop (QP (Func.code Tryz.f42) [1, 0, 1, 0, 0])) (Qp Qm.l0.T Qm.l0.os (Qm.l0 k k)) :=
 Q16 (C := Qm.ctx k) (Qm.gok k) Tryz.mix Q1.nil (by kernel_rfl) (by kernel_rfl) (by kernel_rfl) (Qm.l0.round k) k
theorem Qm.l1.round (k : Nat) : Q14 (Qm.ctx k) (QP (Func.code Tryz.f42) [1, 1, 0, 1, 0, 0]) (.nil) Qm.l1.T [.mask [1, 26, 27, 28], .auto 0] Qm.l1.os (Qm.l1.r k) := by
 intro ρ x kn ke; kernel_rfl
theorem Qm.l1.ok (k : Nat) : StOK 0 Tryz.prog (.loop (QP (Func.code Tryz.f42) [1, 1, 0, 1, 0, 0])) (Qp Qm.l1.T Qm.l1.os (Qm.l1 k k)) :=
 Q16 (C := Qm.ctx k) (Qm.gok k) Tryz.mix Q1.nil (by kernel_rfl) (by kernel_rfl) (by kernel_rfl) (Qm.l1.round k) k
theorem Qm.l2.round (k : Nat) : Q14 (Qm.ctx k) (QP (Func.code Tryz.f42) [1, 1, 1, 1, 1, 1, 1, 0, 1, 0, 0]) (.nil) Qm.l2.T [.mask [1, 8, 52, 53, 54], .auto 0] Qm.l2.os (Qm.l2.r k) := by
 intro ρ x kn ke; kernel_rfl
theorem Qm.l2.ok (k : Nat) : StOK 0 Tryz.prog (.loop (QP (Func.code Tryz.f42) [1, 1, 1, 1, 1, 1, 1, 0, 1, 0, 0])) (Qp Qm.l2.T Qm.l2.os (Qm.l2 k k)) :=
 Q16 (C := Qm.ctx k) (Qm.gok k) Tryz.mix Q1.nil (by kernel_rfl) (by kernel_rfl) (by kernel_rfl) (Qm.l2.round k) k
theorem Qm.l3.round (k : Nat) : Q14 (Qm.ctx k) (QP (Func.code Tryz.f42) [1, 1, 1, 1, 1, 1, 1, 1, 1, 0, 1, 0, 0]) (.nil) Qm.l3.T [.mask [1, 8, 84, 85, 86], .auto 0] Qm.l3.os (Qm.l3.r k) := by
 intro ρ x kn ke; kernel_rfl
theorem Qm.l3.ok (k : Nat) : StOK 0 Tryz.prog (.loop (QP (Func.code Tryz.f42) [1, 1, 1, 1, 1, 1, 1, 1, 1, 0, 1, 0, 0])) (Qp Qm.l3.T Qm.l3.os (Qm.l3 k k)) :=
 Q16 (C := Qm.ctx k) (Qm.gok k) Tryz.mix Q1.nil (by kernel_rfl) (by kernel_rfl) (by kernel_rfl) (Qm.l3.round k) k
def Qm.ann (k : Nat) : Ann := .node [] none (.nil) (.node [] none (.node [] none (.nil) (.node [] none (.node [.mask [1, 14, 15, 16], .auto 0] (some (Qp Qm.l0.T Qm.l0.os (Qm.l0 k k))) .nil .nil) (.nil))) (.node [] none (.node [] none (.nil) (.node [] none (.node [.mask [1, 26, 27, 28], .auto 0] (some (Qp Qm.l1.T Qm.l1.os (Qm.l1 k k))) .nil .nil) (.nil))) (.node [] none (.nil) (.node [] none (.nil) (.node [] none (.nil) (.node [] none (.nil) (.node [] none (.node [] none (.nil) (.node [] none (.node [.mask [1, 8, 52, 53, 54], .auto 0] (some (Qp Qm.l2.T Qm.l2.os (Qm.l2 k k))) .nil .nil) (.nil))) (.node [] none (.nil) (.node [] none (.node [] none (.nil) (.node [] none (.node [.mask [1, 8, 84, 85, 86], .auto 0] (some (Qp Qm.l3.T Qm.l3.os (Qm.l3 k k))) .nil .nil) (.nil))) (.nil))))))))))
theorem Qm.body (k : Nat) : Q0W (Qm.ctx k) Tryz.f42 (Func.code Tryz.f42) (Qm.ann k) Qm.tin Qm.tout (fun x K => Qm.c k x.1 K) := by
 intro ρ x K; kernel_rfl
theorem Qm.sem_ok (k : Nat) : QI Tryz.prog 42 (Qm.sem k) :=
 QG (C := Qm.ctx k) (Qm.gok k) Tryz.mix (c := Func.code Tryz.f42) (ann := Qm.ann k) (tin := Qm.tin) (tout := Qm.tout) (fun x K => Qm.c k x.1 K) Tryz.func42 (by kernel_rfl) (by kernel_rfl) (Q1.seq Q1.nil (Q1.seq (Q1.seq Q1.nil (Q1.block (Q1.loop (by kernel_rfl) (Qm.l0.ok k)))) (Q1.seq (Q1.seq Q1.nil (Q1.block (Q1.loop (by kernel_rfl) (Qm.l1.ok k)))) (Q1.seq Q1.nil (Q1.seq Q1.nil (Q1.seq Q1.nil (Q1.seq Q1.nil (Q1.seq (Q1.seq Q1.nil (Q1.block (Q1.loop (by kernel_rfl) (Qm.l2.ok k)))) (Q1.seq Q1.nil (Q1.seq (Q1.seq Q1.nil (Q1.block (Q1.loop (by kernel_rfl) (Qm.l3.ok k)))) Q1.nil)))))))))) (Qm.body k)
end Go.Am
