/- A part of a proof: a machine of abstract values that tells what functions of the program compute, and the plain facts on them. -/
import Derived.Test.YtefnfbhgjfkijaaGreatAm11
import Derived.KernelRfl
set_option linter.unusedVariables false
set_option linter.unusedSimpArgs false
set_option linter.unnecessarySimpa false
set_option linter.unusedSectionVars false
namespace Go.Am
abbrev Qdg : Type := ((List Int) × Unit)
abbrev Qdf : Ty := (.arr 32 (.int .u8))
abbrev Qde : Ty := (.arr 8 (.int .u32))
abbrev Qdd : Ty := (.arr 64 (.int .u32))
end Go.Am
namespace Go.Am
open Go Go.Proofs
set_option maxRecDepth 100000
abbrev Q9.l0.σ : Type := Int × (List Int) × Unit
abbrev Q9.l0.τ : Type := (Int × (List Int) × Unit)
def Q9.l0.r (k : Nat) {ρ : Type} (x : Q9.l0.σ) (kn : Q9.l0.σ → Option ρ) (ke : Q9.l0.τ → Option ρ) : Option ρ :=
 let v0 : Int := (((List.length x.2.1) : Nat) : Int)
 let v1 : Int := (IntKind.wrap IntKind.u64 (x.1 + (IntKind.wrap IntKind.u64 v0)))
 bif ((Int.tmod v1 (64 : Int)) != (56 : Int)) then (bif (Nat.ble (((List.length x.2.1) + 1) * 1) 140737488355328) then (kn (x.1, ((x.2.1 ++ (List.set (List.replicate 1 (0 : Int)) 0 (0 : Int))), ()))) else (none)) else (ke (x.1, (x.2.1, ())))
def Q9.l0 (k : Nat) : Nat → Q9.l0.σ → Option Q9.l0.τ := Q12 (Q9.l0.r k)
def Q9.l0.T : StT := ⟨.dat (.int .u64) :: us 2 ++ .vsl 0 :: us 29, [.vec (.int .u8)]⟩
def Q9.l0.os : List Out := [⟨(.exit 0), [.mask [0, 3], .auto 0], ⟨.dat (.int .u64) :: us 2 ++ .vsl 0 :: us 29, [.vec (.int .u8)]⟩⟩]
abbrev Q9.l1.σ : Type := Int × Int × (List Int) × Unit
abbrev Q9.l1.τ : Type := Qdg 
def Q9.l1.r (k : Nat) {ρ : Type} (x : Q9.l1.σ) (kn : Q9.l1.σ → Option ρ) (ke : Q9.l1.τ → Option ρ) : Option ρ :=
 bif (decide (x.2.1 ≥ (0 : Int))) then (let v4 : Int := (IntKind.wrap IntKind.i64 ((8 : Int) * x.2.1))
 bif (decide ((0 : Int) ≤ v4)) then (let v5 : Int := (Q1P IntKind.u64 x.1 v4)
 bif (Nat.ble (((List.length x.2.2.1) + (List.length (List.set (List.replicate 1 (0 : Int)) 0 (IntKind.wrap IntKind.u8 v5)))) * 1) 140737488355328) then (let v6 : Int := (IntKind.wrap IntKind.i64 (x.2.1 - (1 : Int)))
 kn (x.1, (v6, ((x.2.2.1 ++ (List.set (List.replicate 1 (0 : Int)) 0 (IntKind.wrap IntKind.u8 v5))), ())))) else (none)) else (none)) else (ke (x.2.2.1, ()))
def Q9.l1 (k : Nat) : Nat → Q9.l1.σ → Option Q9.l1.τ := Q12 (Q9.l1.r k)
def Q9.l1.T : StT := ⟨us 3 ++ .vsl 0 :: .dat (.int .u64) :: .dat (.int .i64) :: us 27, [.vec (.int .u8)]⟩
def Q9.l1.os : List Out := [⟨(.exit 2), [.mask [3], .auto 0], ⟨us 3 ++ .vsl 0 :: us 29, [.vec (.int .u8)]⟩⟩]
def Q9.c (k : Nat) {ρ : Type} (n : Int) (K : ByteArray × Unit → Option ρ) : Option ρ :=
 (Q9.l0 k k (n, ((List.set (List.replicate 1 (0 : Int)) 0 (128 : Int)), ()))).bind fun t2 => let v3 : Int := (IntKind.wrap IntKind.u64 ((8 : Int) * t2.1))
 (Q9.l1 k k (v3, ((7 : Int), (t2.2.1, ())))).bind fun t7 => K ((bytesOf t7.1), ())
def Q9 (k : Nat) (n : Int) : Option (ByteArray × Unit) := Q9.c k n some
def Q9.tin : List Ty := [(.int .u64)]
def Q9.tout : List Ty := [.str]
def Q9.sem (k : Nat) : Qp := Qt Q9.tin Q9.tout fun x => Q9 k x.1
noncomputable def Q9.ctx (k : Nat) : Ctx := ⟨Tryz.prog, gam []⟩
theorem Q9.gok (k : Nat) : ∀ f, Qh Tryz.prog f ((Q9.ctx k).Γ f) := QO
theorem Q9.l1.round (k : Nat) : Q0Q (Q9.ctx k) (Q08 (Func.code Tryz.f67) [1, 1, 1, 1, 0, 1, 0, 0]) (.nil) Q9.l1.T [.mask [3, 4, 5], .auto 0] Q9.l1.os (Q9.l1.r k) := by
 intro ρ x kn ke; kernel_rfl
theorem Q9.l1.ok (k : Nat) : StOK 0 Tryz.prog (.loop (Q08 (Func.code Tryz.f67) [1, 1, 1, 1, 0, 1, 0, 0])) (Qr Q9.l1.T Q9.l1.os (Q9.l1 k k)) :=
 Q0R (C := Q9.ctx k) (Q9.gok k) Tryz.mix Q0.nil (by kernel_rfl) (by kernel_rfl) (by kernel_rfl) (Q9.l1.round k) k
theorem Q9.l0.round (k : Nat) : Q0Q (Q9.ctx k) (Q08 (Func.code Tryz.f67) [1, 1, 0, 0, 0]) (.nil) Q9.l0.T [.mask [0, 3], .auto 0] Q9.l0.os (Q9.l0.r k) := by
 intro ρ x kn ke; kernel_rfl
theorem Q9.l0.ok (k : Nat) : StOK 0 Tryz.prog (.loop (Q08 (Func.code Tryz.f67) [1, 1, 0, 0, 0])) (Qr Q9.l0.T Q9.l0.os (Q9.l0 k k)) :=
 Q0R (C := Q9.ctx k) (Q9.gok k) Tryz.mix Q0.nil (by kernel_rfl) (by kernel_rfl) (by kernel_rfl) (Q9.l0.round k) k
def Q9.ann (k : Nat) : Ann := .node [] none (.nil) (.node [] none (.nil) (.node [] none (.node [] none (.node [.mask [0, 3], .auto 0] (some (Qr Q9.l0.T Q9.l0.os (Q9.l0 k k))) .nil .nil) (.nil)) (.node [] none (.nil) (.node [] none (.node [] none (.nil) (.node [] none (.node [.mask [3, 4, 5], .auto 0] (some (Qr Q9.l1.T Q9.l1.os (Q9.l1 k k))) .nil .nil) (.nil))) (.nil)))))
theorem Q9.body (k : Nat) : Q0I (Q9.ctx k) Tryz.f67 (Func.code Tryz.f67) (Q9.ann k) Q9.tin Q9.tout (fun x K => Q9.c k x.1 K) := by
 intro ρ x K; kernel_rfl
theorem Q9.sem_ok (k : Nat) : Qh Tryz.prog 67 (Q9.sem k) :=
 Qv (C := Q9.ctx k) (Q9.gok k) Tryz.mix (c := Func.code Tryz.f67) (ann := Q9.ann k) (tin := Q9.tin) (tout := Q9.tout) (fun x K => Q9.c k x.1 K) Tryz.func67 (by kernel_rfl) (by kernel_rfl) (Q0.seq Q0.nil (Q0.seq Q0.nil (Q0.seq (Q0.block (Q0.loop (by kernel_rfl) (Q9.l0.ok k))) (Q0.seq Q0.nil (Q0.seq (Q0.seq Q0.nil (Q0.block (Q0.loop (by kernel_rfl) (Q9.l1.ok k)))) Q0.nil))))) (Q9.body k)
def QV.c (k : Nat) {ρ : Type}  (K : (List Int) × Unit → Option ρ) : Option ρ :=
 let v0 : (List Int) := (List.set (List.set (List.set (List.set (List.set (List.set (List.set (List.set (List.replicate 8 (0 : Int)) 0 (1779033703 : Int)) 1 (3144134277 : Int)) 2 (1013904242 : Int)) 3 (2773480762 : Int)) 4 (1359893119 : Int)) 5 (2600822924 : Int)) 6 (528734635 : Int)) 7 (1541459225 : Int))
 K (v0, ())
def QV (k : Nat)  : Option Qdg := QV.c k  some
def QV.tin : List Ty := []
def QV.tout : List Ty := [Qde]
def QV.sem (k : Nat) : Qp := Qt QV.tin QV.tout fun x => QV k 
noncomputable def QV.ctx (k : Nat) : Ctx := ⟨Tryz.prog, gam []⟩
theorem QV.gok (k : Nat) : ∀ f, Qh Tryz.prog f ((QV.ctx k).Γ f) := QO
def QV.ann (k : Nat) : Ann := .nil
theorem QV.body (k : Nat) : Q0I (QV.ctx k) Tryz.f68 (Func.code Tryz.f68) (QV.ann k) QV.tin QV.tout (fun x K => QV.c k  K) := by
 intro ρ x K; kernel_rfl
theorem QV.sem_ok (k : Nat) : Qh Tryz.prog 68 (QV.sem k) :=
 Qv (C := QV.ctx k) (QV.gok k) Tryz.mix (c := Func.code Tryz.f68) (ann := QV.ann k) (tin := QV.tin) (tout := QV.tout) (fun x K => QV.c k  K) Tryz.func68 (by kernel_rfl) (by kernel_rfl) Q0.nil (QV.body k)
def Qz.c (k : Nat) {ρ : Type}  (K : (List Int) × Unit → Option ρ) : Option ρ :=
 let v0 : (List Int) := (List.set (List.set (List.set (List.set (List.set (List.set (List.set (List.set (List.set (List.set (List.set (List.set (List.set (List.set (List.set (List.set (List.set (List.set (List.set (List.set (List.set (List.set (List.set (List.set (List.set (List.set (List.set (List.set (List.set (List.set (List.set (List.set (List.set (List.set (List.set (List.set (List.set (List.set (List.set (List.set (List.set (List.set (List.set (List.set (List.set (List.set (List.set (List.set (List.set (List.set (List.set (List.set (List.set (List.set (List.set (List.set (List.set (List.set (List.set (List.set (List.set (List.set (List.set (List.set (List.replicate 64 (0 : Int)) 0 (1116352408 : Int)) 1 (1899447441 : Int)) 2 (3049323471 : Int)) 3 (3921009573 : Int)) 4 (961987163 : Int)) 5 (1508970993 : Int)) 6 (2453635748 : Int)) 7 (2870763221 : Int)) 8 (3624381080 : Int)) 9 (310598401 : Int)) 10 (607225278 : Int)) 11 (1426881987 : Int)) 12 (1925078388 : Int)) 13 (2162078206 : Int)) 14 (2614888103 : Int)) 15 (3248222580 : Int)) 16 (3835390401 : Int)) 17 (4022224774 : Int)) 18 (264347078 : Int)) 19 (604807628 : Int)) 20 (770255983 : Int)) 21 (1249150122 : Int)) 22 (1555081692 : Int)) 23 (1996064986 : Int)) 24 (2554220882 : Int)) 25 (2821834349 : Int)) 26 (2952996808 : Int)) 27 (3210313671 : Int)) 28 (3336571891 : Int)) 29 (3584528711 : Int)) 30 (113926993 : Int)) 31 (338241895 : Int)) 32 (666307205 : Int)) 33 (773529912 : Int)) 34 (1294757372 : Int)) 35 (1396182291 : Int)) 36 (1695183700 : Int)) 37 (1986661051 : Int)) 38 (2177026350 : Int)) 39 (2456956037 : Int)) 40 (2730485921 : Int)) 41 (2820302411 : Int)) 42 (3259730800 : Int)) 43 (3345764771 : Int)) 44 (3516065817 : Int)) 45 (3600352804 : Int)) 46 (4094571909 : Int)) 47 (275423344 : Int)) 48 (430227734 : Int)) 49 (506948616 : Int)) 50 (659060556 : Int)) 51 (883997877 : Int)) 52 (958139571 : Int)) 53 (1322822218 : Int)) 54 (1537002063 : Int)) 55 (1747873779 : Int)) 56 (1955562222 : Int)) 57 (2024104815 : Int)) 58 (2227730452 : Int)) 59 (2361852424 : Int)) 60 (2428436474 : Int)) 61 (2756734187 : Int)) 62 (3204031479 : Int)) 63 (3329325298 : Int))
 K (v0, ())
def Qz (k : Nat)  : Option Qdg := Qz.c k  some
def Qz.tin : List Ty := []
def Qz.tout : List Ty := [Qdd]
def Qz.sem (k : Nat) : Qp := Qt Qz.tin Qz.tout fun x => Qz k 
noncomputable def Qz.ctx (k : Nat) : Ctx := ⟨Tryz.prog, gam []⟩
theorem Qz.gok (k : Nat) : ∀ f, Qh Tryz.prog f ((Qz.ctx k).Γ f) := QO
def Qz.ann (k : Nat) : Ann := .nil
theorem Qz.body (k : Nat) : Q0I (Qz.ctx k) Tryz.f99 (Func.code Tryz.f99) (Qz.ann k) Qz.tin Qz.tout (fun x K => Qz.c k  K) := by
 intro ρ x K; kernel_rfl
theorem Qz.sem_ok (k : Nat) : Qh Tryz.prog 99 (Qz.sem k) :=
 Qv (C := Qz.ctx k) (Qz.gok k) Tryz.mix (c := Func.code Tryz.f99) (ann := Qz.ann k) (tin := Qz.tin) (tout := Qz.tout) (fun x K => Qz.c k  K) Tryz.func99 (by kernel_rfl) (by kernel_rfl) Q0.nil (Qz.body k)
def QC.c (k : Nat) {ρ : Type} (n : Int) (by_1 : Int) (K : Int × Unit → Option ρ) : Option ρ :=
 bif (decide ((0 : Int) ≤ by_1)) then (let v0 : Int := (IntKind.wrap IntKind.i64 ((32 : Int) - by_1))
 bif (decide ((0 : Int) ≤ v0)) then (let v1 : Int := (Q0Z BinOp.or IntKind.u32 (Q1P IntKind.u32 n by_1) (Q31 IntKind.u32 n v0))
 K (v1, ())) else (none)) else (none)
def QC (k : Nat) (n : Int) (by_1 : Int) : Option (Int × Unit) := QC.c k n by_1 some
def QC.tin : List Ty := [(.int .u32), (.int .i64)]
def QC.tout : List Ty := [(.int .u32)]
def QC.sem (k : Nat) : Qp := Qt QC.tin QC.tout fun x => QC k x.1 x.2.1
noncomputable def QC.ctx (k : Nat) : Ctx := ⟨Tryz.prog, gam []⟩
theorem QC.gok (k : Nat) : ∀ f, Qh Tryz.prog f ((QC.ctx k).Γ f) := QO
def QC.ann (k : Nat) : Ann := .nil
theorem QC.body (k : Nat) : Q0I (QC.ctx k) Tryz.f100 (Func.code Tryz.f100) (QC.ann k) QC.tin QC.tout (fun x K => QC.c k x.1 x.2.1 K) := by
 intro ρ x K; kernel_rfl
theorem QC.sem_ok (k : Nat) : Qh Tryz.prog 100 (QC.sem k) :=
 Qv (C := QC.ctx k) (QC.gok k) Tryz.mix (c := Func.code Tryz.f100) (ann := QC.ann k) (tin := QC.tin) (tout := QC.tout) (fun x K => QC.c k x.1 x.2.1 K) Tryz.func100 (by kernel_rfl) (by kernel_rfl) Q0.nil (QC.body k)
abbrev Q4.l0.σ : Type := Int × (List Int) × (List Int) × (List Int) × (List Int) × (List Int) × Unit
abbrev Q4.l0.τ : Type := ((List Int) × (List Int) × (List Int) × (List Int) × Unit)
def Q4.l0.r (k : Nat) {ρ : Type} (x : Q4.l0.σ) (kn : Q4.l0.σ → Option ρ) (ke : Q4.l0.τ → Option ρ) : Option ρ :=
 bif (decide (x.1 < (64 : Int))) then (bif (decide (x.1 < (16 : Int))) then (let v2 : Int := (IntKind.wrap IntKind.i64 ((4 : Int) * x.1))
 bif (decide (((0 : Int) ≤ v2) ∧ (v2 < ((64 : Nat) : Int)))) then (let v3 : Int := (List.getD x.2.2.1 (Int.toNat v2) (0 : Int))
 let v4 : Int := (Q31 IntKind.u32 (IntKind.wrap IntKind.u32 v3) (24 : Int))
 let v5 : Int := (IntKind.wrap IntKind.i64 ((4 : Int) * x.1))
 let v6 : Int := (IntKind.wrap IntKind.i64 (v5 + (1 : Int)))
 bif (decide (((0 : Int) ≤ v6) ∧ (v6 < ((64 : Nat) : Int)))) then (let v7 : Int := (List.getD x.2.2.1 (Int.toNat v6) (0 : Int))
 let v8 : Int := (Q31 IntKind.u32 (IntKind.wrap IntKind.u32 v7) (16 : Int))
 let v9 : Int := (IntKind.wrap IntKind.i64 ((4 : Int) * x.1))
 let v10 : Int := (IntKind.wrap IntKind.i64 (v9 + (2 : Int)))
 bif (decide (((0 : Int) ≤ v10) ∧ (v10 < ((64 : Nat) : Int)))) then (let v11 : Int := (List.getD x.2.2.1 (Int.toNat v10) (0 : Int))
 let v12 : Int := (Q31 IntKind.u32 (IntKind.wrap IntKind.u32 v11) (8 : Int))
 let v13 : Int := (Q0Z BinOp.or IntKind.u32 (Q0Z BinOp.or IntKind.u32 v4 v8) v12)
 let v14 : Int := (IntKind.wrap IntKind.i64 ((4 : Int) * x.1))
 let v15 : Int := (IntKind.wrap IntKind.i64 (v14 + (3 : Int)))
 bif (decide (((0 : Int) ≤ v15) ∧ (v15 < ((64 : Nat) : Int)))) then (let v16 : Int := (List.getD x.2.2.1 (Int.toNat v15) (0 : Int))
 bif (decide (((0 : Int) ≤ x.1) ∧ (x.1 < ((64 : Nat) : Int)))) then (let v17 : Int := (IntKind.wrap IntKind.i64 (x.1 + (1 : Int)))
 kn (v17, (x.2.1, (x.2.2.1, (x.2.2.2.1, (x.2.2.2.2.1, ((List.set x.2.2.2.2.2.1 (Int.toNat x.1) (Q0Z BinOp.or IntKind.u32 v13 (IntKind.wrap IntKind.u32 v16))), ()))))))) else (none)) else (none)) else (none)) else (none)) else (none)) else (let v18 : Int := (IntKind.wrap IntKind.i64 (x.1 - (15 : Int)))
 bif (decide (((0 : Int) ≤ v18) ∧ (v18 < ((64 : Nat) : Int)))) then (let v19 : Int := (List.getD x.2.2.2.2.2.1 (Int.toNat v18) (0 : Int))
 let v20 : Int := (IntKind.wrap IntKind.i64 (x.1 - (2 : Int)))
 bif (decide (((0 : Int) ≤ v20) ∧ (v20 < ((64 : Nat) : Int)))) then (let v21 : Int := (List.getD x.2.2.2.2.2.1 (Int.toNat v20) (0 : Int))
 (QC k v21 (17 : Int)).bind fun t22 => (QC k v21 (19 : Int)).bind fun t23 => let v24 : Int := (Q0Z BinOp.xor IntKind.u32 t22.1 t23.1)
 let v25 : Int := (Q1P IntKind.u32 v21 (10 : Int))
 let v26 : Int := (IntKind.wrap IntKind.i64 (x.1 - (7 : Int)))
 bif (decide (((0 : Int) ≤ v26) ∧ (v26 < ((64 : Nat) : Int)))) then (let v27 : Int := (List.getD x.2.2.2.2.2.1 (Int.toNat v26) (0 : Int))
 let v28 : Int := (IntKind.wrap IntKind.u32 ((Q0Z BinOp.xor IntKind.u32 v24 v25) + v27))
 (QC k v19 (7 : Int)).bind fun t29 => (QC k v19 (18 : Int)).bind fun t30 => let v31 : Int := (Q0Z BinOp.xor IntKind.u32 t29.1 t30.1)
 let v32 : Int := (Q1P IntKind.u32 v19 (3 : Int))
 let v33 : Int := (IntKind.wrap IntKind.u32 (v28 + (Q0Z BinOp.xor IntKind.u32 v31 v32)))
 let v34 : Int := (IntKind.wrap IntKind.i64 (x.1 - (16 : Int)))
 bif (decide (((0 : Int) ≤ v34) ∧ (v34 < ((64 : Nat) : Int)))) then (let v35 : Int := (List.getD x.2.2.2.2.2.1 (Int.toNat v34) (0 : Int))
 let v36 : Int := (IntKind.wrap IntKind.u32 (v33 + v35))
 bif (decide (((0 : Int) ≤ x.1) ∧ (x.1 < ((64 : Nat) : Int)))) then (let v37 : Int := (IntKind.wrap IntKind.i64 (x.1 + (1 : Int)))
 kn (v37, (x.2.1, (x.2.2.1, (x.2.2.2.1, (x.2.2.2.2.1, ((List.set x.2.2.2.2.2.1 (Int.toNat x.1) v36), ()))))))) else (none)) else (none)) else (none)) else (none)) else (none))) else (ke (x.2.1, (x.2.2.2.1, (x.2.2.2.2.1, (x.2.2.2.2.2.1, ())))))
def Q4.l0 (k : Nat) : Nat → Q4.l0.σ → Option Q4.l0.τ := Q12 (Q4.l0.r k)
def Q4.l0.T : StT := ⟨us 2 ++ .ptr 0 [] :: .ptr 1 [] :: .ptr 2 [] :: .ptr 3 [] :: .ptr 4 [] :: .dat (.int .i64) :: us 181, [.dat Qde, .dat (.arr 64 (.int .u8)), .dat Qde, .dat Qdd, .dat Qdd]⟩
def Q4.l0.os : List Out := [⟨(.exit 0), [.mask [2, 4, 5, 6], .auto 0], ⟨us 2 ++ .ptr 0 [] :: us 1 ++ .ptr 1 [] :: .ptr 2 [] :: .ptr 3 [] :: us 182, [.dat Qde, .dat Qde, .dat Qdd, .dat Qdd]⟩⟩]
abbrev Q4.l1.σ : Type := Int × (List Int) × (List Int) × (List Int) × (List Int) × (List Int) × Unit
abbrev Q4.l1.τ : Type := ((List Int) × (List Int) × (List Int) × Unit)
def Q4.l1.r (k : Nat) {ρ : Type} (x : Q4.l1.σ) (kn : Q4.l1.σ → Option ρ) (ke : Q4.l1.τ → Option ρ) : Option ρ :=
 bif (decide (x.1 < (64 : Int))) then (let v40 : Int := (List.getD x.2.2.2.2.2.1 4 (0 : Int))
 let v41 : Int := (List.getD x.2.2.2.2.2.1 0 (0 : Int))
 let v42 : Int := (List.getD x.2.2.2.2.2.1 7 (0 : Int))
 (QC k v40 (6 : Int)).bind fun t43 => (QC k v40 (11 : Int)).bind fun t44 => let v45 : Int := (Q0Z BinOp.xor IntKind.u32 t43.1 t44.1)
 (QC k v40 (25 : Int)).bind fun t46 => let v47 : Int := (Q0Z BinOp.xor IntKind.u32 v45 t46.1)
 let v48 : Int := (IntKind.wrap IntKind.u32 (v42 + v47))
 let v49 : Int := (List.getD x.2.2.2.2.2.1 5 (0 : Int))
 let v50 : Int := (IntKind.wrap IntKind.u32 ((4294967295 : Int) - v40))
 let v51 : Int := (List.getD x.2.2.2.2.2.1 6 (0 : Int))
 let v52 : Int := (Q0Z BinOp.xor IntKind.u32 (Q0Z BinOp.and IntKind.u32 v40 v49) (Q0Z BinOp.and IntKind.u32 v50 v51))
 let v53 : Int := (IntKind.wrap IntKind.u32 (v48 + v52))
 bif (decide (((0 : Int) ≤ x.1) ∧ (x.1 < ((64 : Nat) : Int)))) then (let v54 : Int := (List.getD x.2.2.2.1 (Int.toNat x.1) (0 : Int))
 let v55 : Int := (IntKind.wrap IntKind.u32 (v53 + v54))
 bif (decide (((0 : Int) ≤ x.1) ∧ (x.1 < ((64 : Nat) : Int)))) then (let v56 : Int := (List.getD x.2.2.2.2.1 (Int.toNat x.1) (0 : Int))
 let v57 : Int := (IntKind.wrap IntKind.u32 (v55 + v56))
 (QC k v41 (2 : Int)).bind fun t58 => (QC k v41 (13 : Int)).bind fun t59 => let v60 : Int := (Q0Z BinOp.xor IntKind.u32 t58.1 t59.1)
 (QC k v41 (22 : Int)).bind fun t61 => let v62 : Int := (Q0Z BinOp.xor IntKind.u32 v60 t61.1)
 let v63 : Int := (List.getD x.2.2.2.2.2.1 1 (0 : Int))
 let v64 : Int := (List.getD x.2.2.2.2.2.1 2 (0 : Int))
 let v65 : Int := (Q0Z BinOp.xor IntKind.u32 (Q0Z BinOp.and IntKind.u32 v41 v63) (Q0Z BinOp.and IntKind.u32 v41 v64))
 let v66 : Int := (List.getD x.2.2.2.2.2.1 1 (0 : Int))
 let v67 : Int := (List.getD x.2.2.2.2.2.1 2 (0 : Int))
 let v68 : Int := (Q0Z BinOp.xor IntKind.u32 v65 (Q0Z BinOp.and IntKind.u32 v66 v67))
 let v69 : Int := (IntKind.wrap IntKind.u32 (v62 + v68))
 let v70 : Int := (IntKind.wrap IntKind.u32 (v57 + v69))
 let v71 : Int := (List.getD x.2.2.2.2.2.1 0 (0 : Int))
 let v72 : Int := (List.getD x.2.2.2.2.2.1 1 (0 : Int))
 let v73 : Int := (List.getD x.2.2.2.2.2.1 2 (0 : Int))
 let v74 : Int := (List.getD x.2.2.2.2.2.1 3 (0 : Int))
 let v75 : Int := (IntKind.wrap IntKind.u32 (v74 + v57))
 let v76 : Int := (List.getD x.2.2.2.2.2.1 4 (0 : Int))
 let v77 : Int := (List.getD x.2.2.2.2.2.1 5 (0 : Int))
 let v78 : Int := (List.getD x.2.2.2.2.2.1 6 (0 : Int))
 let v79 : (List Int) := (List.set (List.set (List.set (List.set (List.set (List.set (List.set (List.set (List.replicate 8 (0 : Int)) 0 v70) 1 v71) 2 v72) 3 v73) 4 v75) 5 v76) 6 v77) 7 v78)
 let v80 : Int := (IntKind.wrap IntKind.i64 (x.1 + (1 : Int)))
 kn (v80, (x.2.1, (x.2.2.1, (x.2.2.2.1, (x.2.2.2.2.1, (v79, ()))))))) else (none)) else (none)) else (ke (x.2.1, (x.2.2.1, (x.2.2.2.2.2.1, ()))))
def Q4.l1 (k : Nat) : Nat → Q4.l1.σ → Option Q4.l1.τ := Q12 (Q4.l1.r k)
def Q4.l1.T : StT := ⟨us 2 ++ .ptr 0 [] :: us 1 ++ .ptr 1 [] :: .ptr 2 [] :: .ptr 3 [] :: us 3 ++ .ptr 4 [] :: .dat (.int .i64) :: us 177, [.dat Qde, .dat Qde, .dat Qdd, .dat Qdd, .dat Qde]⟩
def Q4.l1.os : List Out := [⟨(.exit 2), [.mask [2, 4, 10], .auto 0], ⟨us 2 ++ .ptr 0 [] :: us 1 ++ .ptr 1 [] :: us 5 ++ .ptr 2 [] :: us 178, [.dat Qde, .dat Qde, .dat Qde]⟩⟩]
abbrev Q4.l2.σ : Type := Int × (List Int) × (List Int) × (List Int) × Unit
abbrev Q4.l2.τ : Type := ((List Int) × (List Int) × Unit)
def Q4.l2.r (k : Nat) {ρ : Type} (x : Q4.l2.σ) (kn : Q4.l2.σ → Option ρ) (ke : Q4.l2.τ → Option ρ) : Option ρ :=
 bif (decide (x.1 < (8 : Int))) then (bif (decide (((0 : Int) ≤ x.1) ∧ (x.1 < ((8 : Nat) : Int)))) then (let v82 : Int := (List.getD x.2.1 (Int.toNat x.1) (0 : Int))
 bif (decide (((0 : Int) ≤ x.1) ∧ (x.1 < ((8 : Nat) : Int)))) then (let v83 : Int := (List.getD x.2.2.2.1 (Int.toNat x.1) (0 : Int))
 let v84 : Int := (IntKind.wrap IntKind.u32 (v82 + v83))
 bif (decide (((0 : Int) ≤ x.1) ∧ (x.1 < ((8 : Nat) : Int)))) then (let v85 : Int := (IntKind.wrap IntKind.i64 (x.1 + (1 : Int)))
 kn (v85, ((List.set x.2.1 (Int.toNat x.1) v84), (x.2.2.1, (x.2.2.2.1, ()))))) else (none)) else (none)) else (none)) else (ke (x.2.1, (x.2.2.1, ())))
def Q4.l2 (k : Nat) : Nat → Q4.l2.σ → Option Q4.l2.τ := Q12 (Q4.l2.r k)
def Q4.l2.T : StT := ⟨us 2 ++ .ptr 0 [] :: us 1 ++ .ptr 1 [] :: us 5 ++ .ptr 2 [] :: us 5 ++ .dat (.int .i64) :: us 172, [.dat Qde, .dat Qde, .dat Qde]⟩
def Q4.l2.os : List Out := [⟨(.exit 4), [.mask [2, 4], .auto 0], ⟨us 2 ++ .ptr 0 [] :: us 1 ++ .ptr 1 [] :: us 184, [.dat Qde, .dat Qde]⟩⟩]
def Q4.c (k : Nat) {ρ : Type} (s : (List Int)) (block : (List Int)) (K : (List Int) × Unit → Option ρ) : Option ρ :=
 (Qz k ).bind fun t0 => let v1 : (List Int) := (List.replicate 64 (0 : Int))
 (Q4.l0 k k ((0 : Int), (s, (block, ((List.replicate 8 (0 : Int)), (t0.1, (v1, ()))))))).bind fun t38 => let v39 : (List Int) := t38.1
 (Q4.l1 k k ((0 : Int), (t38.1, (t38.2.1, (t38.2.2.1, (t38.2.2.2.1, (v39, ()))))))).bind fun t81 => (Q4.l2 k k ((0 : Int), (t81.1, (t81.2.1, (t81.2.2.1, ()))))).bind fun t86 => let v87 : (List Int) := t86.1
 K (v87, ())
def Q4 (k : Nat) (s : (List Int)) (block : (List Int)) : Option Qdg := Q4.c k s block some
def Q4.tin : List Ty := [Qde, (.arr 64 (.int .u8))]
def Q4.tout : List Ty := [Qde]
def Q4.sem (k : Nat) : Qp := Qt Q4.tin Q4.tout fun x => Q4 k x.1 x.2.1
noncomputable def Q4.ctx (k : Nat) : Ctx := ⟨Tryz.prog, gam [(99, (Qz.sem k)), (100, (QC.sem k))]⟩
theorem Q4.gok (k : Nat) : ∀ f, Qh Tryz.prog f ((Q4.ctx k).Γ f) := (Qf (Qz.sem_ok k) (Qf (QC.sem_ok k) QO))
theorem Q4.l2.round (k : Nat) : Q0Q (Q4.ctx k) (Q08 (Func.code Tryz.f69) [1, 1, 1, 1, 1, 1, 0, 1, 0, 0]) (.nil) Q4.l2.T [.mask [2, 4, 10, 16], .auto 0] Q4.l2.os (Q4.l2.r k) := by
 intro ρ x kn ke; kernel_rfl
theorem Q4.l2.ok (k : Nat) : StOK 0 Tryz.prog (.loop (Q08 (Func.code Tryz.f69) [1, 1, 1, 1, 1, 1, 0, 1, 0, 0])) (Qr Q4.l2.T Q4.l2.os (Q4.l2 k k)) :=
 Q0R (C := Q4.ctx k) (Q4.gok k) Tryz.mix Q0.nil (by kernel_rfl) (by kernel_rfl) (by kernel_rfl) (Q4.l2.round k) k
theorem Q4.l1.round (k : Nat) : Q0Q (Q4.ctx k) (Q08 (Func.code Tryz.f69) [1, 1, 1, 1, 1, 0, 1, 0, 0]) (.nil) Q4.l1.T [.mask [2, 4, 5, 6, 10, 11], .auto 0] Q4.l1.os (Q4.l1.r k) := by
 intro ρ x kn ke; kernel_rfl
theorem Q4.l1.ok (k : Nat) : StOK 0 Tryz.prog (.loop (Q08 (Func.code Tryz.f69) [1, 1, 1, 1, 1, 0, 1, 0, 0])) (Qr Q4.l1.T Q4.l1.os (Q4.l1 k k)) :=
 Q0R (C := Q4.ctx k) (Q4.gok k) Tryz.mix Q0.nil (by kernel_rfl) (by kernel_rfl) (by kernel_rfl) (Q4.l1.round k) k
theorem Q4.l0.round (k : Nat) : Q0Q (Q4.ctx k) (Q08 (Func.code Tryz.f69) [1, 1, 1, 0, 1, 0, 0]) (.nil) Q4.l0.T [.mask [2, 3, 4, 5, 6, 7], .auto 0] Q4.l0.os (Q4.l0.r k) := by
 intro ρ x kn ke; kernel_rfl
theorem Q4.l0.ok (k : Nat) : StOK 0 Tryz.prog (.loop (Q08 (Func.code Tryz.f69) [1, 1, 1, 0, 1, 0, 0])) (Qr Q4.l0.T Q4.l0.os (Q4.l0 k k)) :=
 Q0R (C := Q4.ctx k) (Q4.gok k) Tryz.mix Q0.nil (by kernel_rfl) (by kernel_rfl) (by kernel_rfl) (Q4.l0.round k) k
def Q4.ann (k : Nat) : Ann := .node [] none (.nil) (.node [] none (.nil) (.node [] none (.nil) (.node [] none (.node [] none (.nil) (.node [] none (.node [.mask [2, 3, 4, 5, 6, 7], .auto 0] (some (Qr Q4.l0.T Q4.l0.os (Q4.l0 k k))) .nil .nil) (.nil))) (.node [] none (.nil) (.node [] none (.node [] none (.nil) (.node [] none (.node [.mask [2, 4, 5, 6, 10, 11], .auto 0] (some (Qr Q4.l1.T Q4.l1.os (Q4.l1 k k))) .nil .nil) (.nil))) (.node [] none (.node [] none (.nil) (.node [] none (.node [.mask [2, 4, 10, 16], .auto 0] (some (Qr Q4.l2.T Q4.l2.os (Q4.l2 k k))) .nil .nil) (.nil))) (.nil)))))))
theorem Q4.body (k : Nat) : Q0I (Q4.ctx k) Tryz.f69 (Func.code Tryz.f69) (Q4.ann k) Q4.tin Q4.tout (fun x K => Q4.c k x.1 x.2.1 K) := by
 intro ρ x K; kernel_rfl
theorem Q4.sem_ok (k : Nat) : Qh Tryz.prog 69 (Q4.sem k) :=
 Qv (C := Q4.ctx k) (Q4.gok k) Tryz.mix (c := Func.code Tryz.f69) (ann := Q4.ann k) (tin := Q4.tin) (tout := Q4.tout) (fun x K => Q4.c k x.1 x.2.1 K) Tryz.func69 (by kernel_rfl) (by kernel_rfl) (Q0.seq Q0.nil (Q0.seq Q0.nil (Q0.seq Q0.nil (Q0.seq (Q0.seq Q0.nil (Q0.block (Q0.loop (by kernel_rfl) (Q4.l0.ok k)))) (Q0.seq Q0.nil (Q0.seq (Q0.seq Q0.nil (Q0.block (Q0.loop (by kernel_rfl) (Q4.l1.ok k)))) (Q0.seq (Q0.seq Q0.nil (Q0.block (Q0.loop (by kernel_rfl) (Q4.l2.ok k)))) Q0.nil))))))) (Q4.body k)
abbrev Q7.l1.σ : Type := Int × Int × (List Int) × (List Int) × (List Int) × Unit
abbrev Q7.l1.τ : Type := (Int × (List Int) × (List Int) × (List Int) × Unit)
def Q7.l1.r (k : Nat) {ρ : Type} (x : Q7.l1.σ) (kn : Q7.l1.σ → Option ρ) (ke : Q7.l1.τ → Option ρ) : Option ρ :=
 bif (decide (x.2.1 < (4 : Int))) then (let v1 : Int := (IntKind.wrap IntKind.i64 ((4 : Int) * x.1))
 let v2 : Int := (IntKind.wrap IntKind.i64 (v1 + x.2.1))
 bif (decide (((0 : Int) ≤ x.1) ∧ (x.1 < ((8 : Nat) : Int)))) then (let v3 : Int := (List.getD x.2.2.1 (Int.toNat x.1) (0 : Int))
 let v4 : Int := (IntKind.wrap IntKind.i64 ((8 : Int) * x.2.1))
 let v5 : Int := (IntKind.wrap IntKind.i64 ((24 : Int) - v4))
 bif (decide ((0 : Int) ≤ v5)) then (bif (decide (((0 : Int) ≤ v2) ∧ (v2 < ((32 : Nat) : Int)))) then (let v6 : Int := (IntKind.wrap IntKind.i64 (x.2.1 + (1 : Int)))
 kn (x.1, (v6, (x.2.2.1, (x.2.2.2.1, ((List.set x.2.2.2.2.1 (Int.toNat v2) (IntKind.wrap IntKind.u8 (Q1P IntKind.u32 v3 v5))), ())))))) else (none)) else (none)) else (none)) else (ke (x.1, (x.2.2.1, (x.2.2.2.1, (x.2.2.2.2.1, ())))))
def Q7.l1 (k : Nat) : Nat → Q7.l1.σ → Option Q7.l1.τ := Q12 (Q7.l1.r k)
def Q7.l1.T : StT := ⟨us 1 ++ .ptr 0 [] :: .ptr 1 [] :: .ptr 2 [] :: .dat (.int .i64) :: .dat (.int .i64) :: us 23, [.dat Qde, .dat Qdf, .dat Qdf]⟩
def Q7.l1.os : List Out := [⟨(.exit 2), [.mask [1, 2, 3, 4], .auto 0], ⟨us 1 ++ .ptr 0 [] :: .ptr 1 [] :: .ptr 2 [] :: .dat (.int .i64) :: us 24, [.dat Qde, .dat Qdf, .dat Qdf]⟩⟩]
abbrev Q7.l0.σ : Type := Int × (List Int) × (List Int) × (List Int) × Unit
abbrev Q7.l0.τ : Type := ((List Int) × (List Int) × Unit)
def Q7.l0.r (k : Nat) {ρ : Type} (x : Q7.l0.σ) (kn : Q7.l0.σ → Option ρ) (ke : Q7.l0.τ → Option ρ) : Option ρ :=
 bif (decide (x.1 < (8 : Int))) then ((Q7.l1 k k (x.1, ((0 : Int), (x.2.1, (x.2.2.1, (x.2.2.2.1, ())))))).bind fun t7 => let v8 : Int := (IntKind.wrap IntKind.i64 (t7.1 + (1 : Int)))
 kn (v8, (t7.2.1, (t7.2.2.1, (t7.2.2.2.1, ()))))) else (ke (x.2.2.1, (x.2.2.2.1, ())))
def Q7.l0 (k : Nat) : Nat → Q7.l0.σ → Option Q7.l0.τ := Q12 (Q7.l0.r k)
def Q7.l0.T : StT := ⟨us 1 ++ .ptr 0 [] :: .ptr 1 [] :: .ptr 2 [] :: .dat (.int .i64) :: us 24, [.dat Qde, .dat Qdf, .dat Qdf]⟩
def Q7.l0.os : List Out := [⟨(.exit 0), [.mask [2, 3], .auto 0], ⟨us 2 ++ .ptr 0 [] :: .ptr 1 [] :: us 25, [.dat Qdf, .dat Qdf]⟩⟩]
def Q7.c (k : Nat) {ρ : Type} (x_0 : (List Int)) (K : (List Int) × Unit → Option ρ) : Option ρ :=
 let v0 : (List Int) := (List.replicate 32 (0 : Int))
 (Q7.l0 k k ((0 : Int), (x_0, ((List.replicate 32 (0 : Int)), (v0, ()))))).bind fun t9 => let v10 : (List Int) := t9.2.1
 K (v10, ())
def Q7 (k : Nat) (x_0 : (List Int)) : Option Qdg := Q7.c k x_0 some
def Q7.tin : List Ty := [Qde]
def Q7.tout : List Ty := [Qdf]
def Q7.sem (k : Nat) : Qp := Qt Q7.tin Q7.tout fun x => Q7 k x.1
noncomputable def Q7.ctx (k : Nat) : Ctx := ⟨Tryz.prog, gam []⟩
theorem Q7.gok (k : Nat) : ∀ f, Qh Tryz.prog f ((Q7.ctx k).Γ f) := QO
theorem Q7.l1.round (k : Nat) : Q0Q (Q7.ctx k) (Q08 (Func.code Tryz.f70) [1, 1, 0, 1, 0, 0, 1, 0, 0, 1, 0, 0]) (.nil) Q7.l1.T [.mask [1, 2, 3, 4, 5], .auto 0] Q7.l1.os (Q7.l1.r k) := by
 intro ρ x kn ke; kernel_rfl
theorem Q7.l1.ok (k : Nat) : StOK 0 Tryz.prog (.loop (Q08 (Func.code Tryz.f70) [1, 1, 0, 1, 0, 0, 1, 0, 0, 1, 0, 0])) (Qr Q7.l1.T Q7.l1.os (Q7.l1 k k)) :=
 Q0R (C := Q7.ctx k) (Q7.gok k) Tryz.mix Q0.nil (by kernel_rfl) (by kernel_rfl) (by kernel_rfl) (Q7.l1.round k) k
theorem Q7.l0.round (k : Nat) : Q0Q (Q7.ctx k) (Q08 (Func.code Tryz.f70) [1, 1, 0, 1, 0, 0]) (.node [] none (.nil) (.node [] none (.node [] none (.node [] none (.nil) (.node [] none (.node [.mask [1, 2, 3, 4, 5], .auto 0] (some (Qr Q7.l1.T Q7.l1.os (Q7.l1 k k))) .nil .nil) (.nil))) (.nil)) (.nil))) Q7.l0.T [.mask [1, 2, 3, 4], .auto 0] Q7.l0.os (Q7.l0.r k) := by
 intro ρ x kn ke; kernel_rfl
theorem Q7.l0.ok (k : Nat) : StOK 0 Tryz.prog (.loop (Q08 (Func.code Tryz.f70) [1, 1, 0, 1, 0, 0])) (Qr Q7.l0.T Q7.l0.os (Q7.l0 k k)) :=
 Q0R (C := Q7.ctx k) (Q7.gok k) Tryz.mix (Q0.seq Q0.nil (Q0.seq (Q0.block (Q0.seq Q0.nil (Q0.block (Q0.loop (by kernel_rfl) (Q7.l1.ok k))))) Q0.nil)) (by kernel_rfl) (by kernel_rfl) (by kernel_rfl) (Q7.l0.round k) k
def Q7.ann (k : Nat) : Ann := .node [] none (.nil) (.node [] none (.nil) (.node [] none (.node [] none (.nil) (.node [] none (.node [.mask [1, 2, 3, 4], .auto 0] (some (Qr Q7.l0.T Q7.l0.os (Q7.l0 k k))) .nil .nil) (.nil))) (.nil)))
theorem Q7.body (k : Nat) : Q0I (Q7.ctx k) Tryz.f70 (Func.code Tryz.f70) (Q7.ann k) Q7.tin Q7.tout (fun x K => Q7.c k x.1 K) := by
 intro ρ x K; kernel_rfl
theorem Q7.sem_ok (k : Nat) : Qh Tryz.prog 70 (Q7.sem k) :=
 Qv (C := Q7.ctx k) (Q7.gok k) Tryz.mix (c := Func.code Tryz.f70) (ann := Q7.ann k) (tin := Q7.tin) (tout := Q7.tout) (fun x K => Q7.c k x.1 K) Tryz.func70 (by kernel_rfl) (by kernel_rfl) (Q0.seq Q0.nil (Q0.seq Q0.nil (Q0.seq (Q0.seq Q0.nil (Q0.block (Q0.loop (by kernel_rfl) (Q7.l0.ok k)))) Q0.nil))) (Q7.body k)
abbrev Q8.l1.σ : Type := ByteArray × Int × Int × (List Int) × (List Int) × (List Int) × Unit
abbrev Q8.l1.τ : Type := (ByteArray × Int × (List Int) × (List Int) × (List Int) × Unit)
def Q8.l1.r (k : Nat) {ρ : Type} (x : Q8.l1.σ) (kn : Q8.l1.σ → Option ρ) (ke : Q8.l1.τ → Option ρ) : Option ρ :=
 bif (decide (x.2.2.1 < (64 : Int))) then (let v5 : Int := (IntKind.wrap IntKind.i64 (x.2.1 + x.2.2.1))
 bif (decide (((0 : Int) ≤ v5) ∧ (v5 < (((ByteArray.size x.1) : Nat) : Int)))) then (let v6 : Int := (Q63 x.1 (Int.toNat v5))
 bif (decide (((0 : Int) ≤ x.2.2.1) ∧ (x.2.2.1 < ((64 : Nat) : Int)))) then (let v7 : Int := (IntKind.wrap IntKind.i64 (x.2.2.1 + (1 : Int)))
 kn (x.1, (x.2.1, (v7, (x.2.2.2.1, (x.2.2.2.2.1, ((List.set x.2.2.2.2.2.1 (Int.toNat x.2.2.1) v6), ()))))))) else (none)) else (none)) else (ke (x.1, (x.2.1, (x.2.2.2.1, (x.2.2.2.2.1, (x.2.2.2.2.2.1, ()))))))
def Q8.l1 (k : Nat) : Nat → Q8.l1.σ → Option Q8.l1.τ := Q12 (Q8.l1.r k)
def Q8.l1.T : StT := ⟨.dat .str :: us 1 ++ .ptr 0 [] :: .ptr 1 [] :: .dat (.int .i64) :: .ptr 2 [] :: .dat (.int .i64) :: us 30, [.dat Qdf, .dat Qde, .dat (.arr 64 (.int .u8))]⟩
def Q8.l1.os : List Out := [⟨(.exit 2), [.mask [0, 2, 3, 4, 5], .auto 0], ⟨.dat .str :: us 1 ++ .ptr 0 [] :: .ptr 1 [] :: .dat (.int .i64) :: .ptr 2 [] :: us 31, [.dat Qdf, .dat Qde, .dat (.arr 64 (.int .u8))]⟩⟩]
abbrev Q8.l0.σ : Type := ByteArray × Int × (List Int) × (List Int) × Unit
abbrev Q8.l0.τ : Type := ((List Int) × (List Int) × Unit)
def Q8.l0.r (k : Nat) {ρ : Type} (x : Q8.l0.σ) (kn : Q8.l0.σ → Option ρ) (ke : Q8.l0.τ → Option ρ) : Option ρ :=
 let v3 : Int := (((ByteArray.size x.1) : Nat) : Int)
 bif (decide (x.2.1 < v3)) then (let v4 : (List Int) := (List.replicate 64 (0 : Int))
 (Q8.l1 k k (x.1, (x.2.1, ((0 : Int), (x.2.2.1, (x.2.2.2.1, (v4, ()))))))).bind fun t8 => let v9 : (List Int) := t8.2.2.2.1
 let v10 : (List Int) := t8.2.2.2.2.1
 (Q4 k v9 v10).bind fun t11 => let v12 : Int := (IntKind.wrap IntKind.i64 (t8.2.1 + (64 : Int)))
 kn (t8.1, (v12, (t8.2.2.1, (t11.1, ()))))) else (ke (x.2.2.1, (x.2.2.2.1, ())))
def Q8.l0 (k : Nat) : Nat → Q8.l0.σ → Option Q8.l0.τ := Q12 (Q8.l0.r k)
def Q8.l0.T : StT := ⟨.dat .str :: us 1 ++ .ptr 0 [] :: .ptr 1 [] :: .dat (.int .i64) :: us 32, [.dat Qdf, .dat Qde]⟩
def Q8.l0.os : List Out := [⟨(.exit 0), [.mask [2, 3], .auto 0], ⟨us 2 ++ .ptr 0 [] :: .ptr 1 [] :: us 33, [.dat Qdf, .dat Qde]⟩⟩]
def Q8.c (k : Nat) {ρ : Type} (s : ByteArray) (K : (List Int) × Unit → Option ρ) : Option ρ :=
 (Q9 k (IntKind.wrap IntKind.u64 (((ByteArray.size s) : Nat) : Int))).bind fun t0 => bif (Nat.ble ((ByteArray.size s) + (ByteArray.size t0.1)) 9223372036854775807) then (let v1 : ByteArray := (s ++ t0.1)
 (QV k ).bind fun t2 => (Q8.l0 k k (v1, ((0 : Int), ((List.replicate 32 (0 : Int)), (t2.1, ()))))).bind fun t13 => let v14 : (List Int) := t13.2.1
 (Q7 k v14).bind fun t15 => K (t15.1, ())) else (none)
def Q8 (k : Nat) (s : ByteArray) : Option Qdg := Q8.c k s some
def Q8.tin : List Ty := [.str]
def Q8.tout : List Ty := [Qdf]
def Q8.sem (k : Nat) : Qp := Qt Q8.tin Q8.tout fun x => Q8 k x.1
noncomputable def Q8.ctx (k : Nat) : Ctx := ⟨Tryz.prog, gam [(67, (Q9.sem k)), (68, (QV.sem k)), (69, (Q4.sem k)), (70, (Q7.sem k))]⟩
theorem Q8.gok (k : Nat) : ∀ f, Qh Tryz.prog f ((Q8.ctx k).Γ f) := (Qf (Q9.sem_ok k) (Qf (QV.sem_ok k) (Qf (Q4.sem_ok k) (Qf (Q7.sem_ok k) QO))))
theorem Q8.l1.round (k : Nat) : Q0Q (Q8.ctx k) (Q08 (Func.code Tryz.f37) [1, 1, 1, 0, 1, 0, 0, 1, 0, 0, 1, 0, 1, 0, 0]) (.nil) Q8.l1.T [.mask [0, 2, 3, 4, 5, 6], .auto 0] Q8.l1.os (Q8.l1.r k) := by
 intro ρ x kn ke; kernel_rfl
theorem Q8.l1.ok (k : Nat) : StOK 0 Tryz.prog (.loop (Q08 (Func.code Tryz.f37) [1, 1, 1, 0, 1, 0, 0, 1, 0, 0, 1, 0, 1, 0, 0])) (Qr Q8.l1.T Q8.l1.os (Q8.l1 k k)) :=
 Q0R (C := Q8.ctx k) (Q8.gok k) Tryz.mix Q0.nil (by kernel_rfl) (by kernel_rfl) (by kernel_rfl) (Q8.l1.round k) k
theorem Q8.l0.round (k : Nat) : Q0Q (Q8.ctx k) (Q08 (Func.code Tryz.f37) [1, 1, 1, 0, 1, 0, 0]) (.node [] none (.nil) (.node [] none (.node [] none (.node [] none (.nil) (.node [] none (.node [] none (.nil) (.node [] none (.node [.mask [0, 2, 3, 4, 5, 6], .auto 0] (some (Qr Q8.l1.T Q8.l1.os (Q8.l1 k k))) .nil .nil) (.nil))) (.nil))) (.nil)) (.nil))) Q8.l0.T [.mask [0, 2, 3, 4], .auto 0] Q8.l0.os (Q8.l0.r k) := by
 intro ρ x kn ke; kernel_rfl
theorem Q8.l0.ok (k : Nat) : StOK 0 Tryz.prog (.loop (Q08 (Func.code Tryz.f37) [1, 1, 1, 0, 1, 0, 0])) (Qr Q8.l0.T Q8.l0.os (Q8.l0 k k)) :=
 Q0R (C := Q8.ctx k) (Q8.gok k) Tryz.mix (Q0.seq Q0.nil (Q0.seq (Q0.block (Q0.seq Q0.nil (Q0.seq (Q0.seq Q0.nil (Q0.block (Q0.loop (by kernel_rfl) (Q8.l1.ok k)))) Q0.nil))) Q0.nil)) (by kernel_rfl) (by kernel_rfl) (by kernel_rfl) (Q8.l0.round k) k
def Q8.ann (k : Nat) : Ann := .node [] none (.nil) (.node [] none (.nil) (.node [] none (.nil) (.node [] none (.node [] none (.nil) (.node [] none (.node [.mask [0, 2, 3, 4], .auto 0] (some (Qr Q8.l0.T Q8.l0.os (Q8.l0 k k))) .nil .nil) (.nil))) (.nil))))
theorem Q8.body (k : Nat) : Q0I (Q8.ctx k) Tryz.f37 (Func.code Tryz.f37) (Q8.ann k) Q8.tin Q8.tout (fun x K => Q8.c k x.1 K) := by
 intro ρ x K; kernel_rfl
theorem Q8.sem_ok (k : Nat) : Qh Tryz.prog 37 (Q8.sem k) :=
 Qv (C := Q8.ctx k) (Q8.gok k) Tryz.mix (c := Func.code Tryz.f37) (ann := Q8.ann k) (tin := Q8.tin) (tout := Q8.tout) (fun x K => Q8.c k x.1 K) Tryz.func37 (by kernel_rfl) (by kernel_rfl) (Q0.seq Q0.nil (Q0.seq Q0.nil (Q0.seq Q0.nil (Q0.seq (Q0.seq Q0.nil (Q0.block (Q0.loop (by kernel_rfl) (Q8.l0.ok k)))) Q0.nil)))) (Q8.body k)
def QX.c (k : Nat) {ρ : Type} (s : ByteArray) (K : (List Int) × Unit → Option ρ) : Option ρ :=
 (Q8 k s).bind fun t0 => let v1 : ByteArray := (bytesOf (List.take 32 (List.drop 0 t0.1)))
 (Q8 k v1).bind fun t2 => K (t2.1, ())
def QX (k : Nat) (s : ByteArray) : Option Qdg := QX.c k s some
def QX.tin : List Ty := [.str]
def QX.tout : List Ty := [Qdf]
def QX.sem (k : Nat) : Qp := Qt QX.tin QX.tout fun x => QX k x.1
noncomputable def QX.ctx (k : Nat) : Ctx := ⟨Tryz.prog, gam [(37, (Q8.sem k))]⟩
theorem QX.gok (k : Nat) : ∀ f, Qh Tryz.prog f ((QX.ctx k).Γ f) := (Qf (Q8.sem_ok k) QO)
def QX.ann (k : Nat) : Ann := .nil
theorem QX.body (k : Nat) : Q0I (QX.ctx k) Tryz.f15 (Func.code Tryz.f15) (QX.ann k) QX.tin QX.tout (fun x K => QX.c k x.1 K) := by
 intro ρ x K; kernel_rfl
theorem QX.sem_ok (k : Nat) : Qh Tryz.prog 15 (QX.sem k) :=
 Qv (C := QX.ctx k) (QX.gok k) Tryz.mix (c := Func.code Tryz.f15) (ann := QX.ann k) (tin := QX.tin) (tout := QX.tout) (fun x K => QX.c k x.1 K) Tryz.func15 (by kernel_rfl) (by kernel_rfl) Q0.nil (QX.body k)
end Go.Am
