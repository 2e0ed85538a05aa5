/- A part of a proof: a machine of abstract values that tells what functions of the program compute, and the plain facts on them. -/
import Derived.Test.YtpoofchknajlgaaAm8
import Derived.KernelRfl
import Derived.Test.YtpoofchknajlgaaAm6
import Derived.Test.YtpoofchknajlgaaAm5
set_option linter.unusedVariables false
set_option linter.unusedSimpArgs false
set_option linter.unnecessarySimpa false
set_option linter.unusedSectionVars false
namespace Go.Am
abbrev Qeh : Type := ((List Int) × Unit)
abbrev Qeg : Ty := (.arr 32 (.int .u8))
abbrev Qef : Ty := (.arr 8 (.int .u32))
abbrev Qee : Ty := (.arr 64 (.int .u32))
end Go.Am
namespace Go.Am
open Go Go.Proofs
set_option maxRecDepth 100000
abbrev Qf.l0.σ : Type := Int × Int × Int × (List Int) × Unit
abbrev Qf.l0.τ : Type := Qeh 
def Qf.l0.r (k : Nat) {ρ : Type} (x : Qf.l0.σ) (kn : Qf.l0.σ → Option ρ) (ke : Qf.l0.τ → Option ρ) : Option ρ :=
 bif (decide (x.2.2.1 < x.2.1)) then (let v0 : Int := (Int.tmod x.1 (256 : Int))
 bif (Nat.ble (((List.length x.2.2.2.1) + (List.length (List.set (List.replicate 1 (0 : Int)) 0 (IntKind.wrap IntKind.u8 v0)))) * 1) 140737488355328) then (let v1 : Int := (IntKind.wrap IntKind.u64 (Int.tdiv x.1 (256 : Int)))
 let v2 : Int := (IntKind.wrap IntKind.i64 (x.2.2.1 + (1 : Int)))
 kn (v1, (x.2.1, (v2, ((x.2.2.2.1 ++ (List.set (List.replicate 1 (0 : Int)) 0 (IntKind.wrap IntKind.u8 v0))), ()))))) else (none)) else (ke (x.2.2.2.1, ()))
def Qf.l0 (k : Nat) : Nat → Qf.l0.σ → Option Qf.l0.τ := Q1j (Qf.l0.r k)
def Qf.l0.T : StT := ⟨.dat (.int .u64) :: .dat (.int .i64) :: us 3 ++ .vsl 0 :: .dat (.int .i64) :: us 16, [.vec (.int .u8)]⟩
def Qf.l0.os : List Out := [⟨(.exit 0), [.mask [5], .auto 0], ⟨us 5 ++ .vsl 0 :: us 17, [.vec (.int .u8)]⟩⟩]
def Qf.c (k : Nat) {ρ : Type} (n : Int) (bytes : Int) (K : ByteArray × Unit → Option ρ) : Option ρ :=
 (Qf.l0 k k (n, (bytes, ((0 : Int), ((List.replicate 0 (0 : Int)), ()))))).bind fun t3 => K ((bytesOf t3.1), ())
def Qf (k : Nat) (n : Int) (bytes : Int) : Option (ByteArray × Unit) := Qf.c k n bytes some
def Qf.tin : List Ty := [(.int .u64), (.int .i64)]
def Qf.tout : List Ty := [.str]
def Qf.sem (k : Nat) : QP := Q15 Qf.tin Qf.tout fun x => Qf k x.1 x.2.1
noncomputable def Qf.ctx (k : Nat) : Ctx := ⟨Try.prog, gam []⟩
theorem Qf.gok (k : Nat) : ∀ f, Qw Try.prog f ((Qf.ctx k).Γ f) := Q0b
theorem Qf.l0.round (k : Nat) : Q1e (Qf.ctx k) (Q0K (Func.code Try.f41) [1, 1, 0, 1, 0, 0]) (.nil) Qf.l0.T [.mask [0, 1, 5, 6], .auto 0] Qf.l0.os (Qf.l0.r k) := by
 intro ρ x kn ke; kernel_rfl
theorem Qf.l0.ok (k : Nat) : StOK 0 Try.prog (.loop (Q0K (Func.code Try.f41) [1, 1, 0, 1, 0, 0])) (Q01 Qf.l0.T Qf.l0.os (Qf.l0 k k)) :=
 Q1i (C := Qf.ctx k) (Qf.gok k) Try.mix Q1.nil (by kernel_rfl) (by kernel_rfl) (by kernel_rfl) (Qf.l0.round k) k
def Qf.ann (k : Nat) : Ann := .node [] none (.nil) (.node [] none (.nil) (.node [] none (.node [] none (.nil) (.node [] none (.node [.mask [0, 1, 5, 6], .auto 0] (some (Q01 Qf.l0.T Qf.l0.os (Qf.l0 k k))) .nil .nil) (.nil))) (.nil)))
theorem Qf.body (k : Nat) : Q1n (Qf.ctx k) Try.f41 (Func.code Try.f41) (Qf.ann k) Qf.tin Qf.tout (fun x K => Qf.c k x.1 x.2.1 K) := by
 intro ρ x K; kernel_rfl
theorem Qf.sem_ok (k : Nat) : Qw Try.prog 41 (Qf.sem k) :=
 Q11 (C := Qf.ctx k) (Qf.gok k) Try.mix (c := Func.code Try.f41) (ann := Qf.ann k) (tin := Qf.tin) (tout := Qf.tout) (fun x K => Qf.c k x.1 x.2.1 K) Try.func41 (by kernel_rfl) (by kernel_rfl) (Q1.seq Q1.nil (Q1.seq Q1.nil (Q1.seq (Q1.seq Q1.nil (Q1.block (Q1.loop (by kernel_rfl) (Qf.l0.ok k)))) Q1.nil))) (Qf.body k)
abbrev Q7.l0.σ : Type := Int × (List Int) × Unit
abbrev Q7.l0.τ : Type := (Int × (List Int) × Unit)
def Q7.l0.r (k : Nat) {ρ : Type} (x : Q7.l0.σ) (kn : Q7.l0.σ → Option ρ) (ke : Q7.l0.τ → Option ρ) : Option ρ :=
 let v0 : Int := (((List.length x.2.1) : Nat) : Int)
 let v1 : Int := (IntKind.wrap IntKind.u64 (x.1 + (IntKind.wrap IntKind.u64 v0)))
 bif ((Int.tmod v1 (64 : Int)) != (56 : Int)) then (bif (Nat.ble (((List.length x.2.1) + 1) * 1) 140737488355328) then (kn (x.1, ((x.2.1 ++ (List.set (List.replicate 1 (0 : Int)) 0 (0 : Int))), ()))) else (none)) else (ke (x.1, (x.2.1, ())))
def Q7.l0 (k : Nat) : Nat → Q7.l0.σ → Option Q7.l0.τ := Q1j (Q7.l0.r k)
def Q7.l0.T : StT := ⟨.dat (.int .u64) :: us 2 ++ .vsl 0 :: us 29, [.vec (.int .u8)]⟩
def Q7.l0.os : List Out := [⟨(.exit 0), [.mask [0, 3], .auto 0], ⟨.dat (.int .u64) :: us 2 ++ .vsl 0 :: us 29, [.vec (.int .u8)]⟩⟩]
abbrev Q7.l1.σ : Type := Int × Int × (List Int) × Unit
abbrev Q7.l1.τ : Type := Qeh 
def Q7.l1.r (k : Nat) {ρ : Type} (x : Q7.l1.σ) (kn : Q7.l1.σ → Option ρ) (ke : Q7.l1.τ → Option ρ) : Option ρ :=
 bif (decide (x.2.1 ≥ (0 : Int))) then (let v4 : Int := (IntKind.wrap IntKind.i64 ((8 : Int) * x.2.1))
 bif (decide ((0 : Int) ≤ v4)) then (let v5 : Int := (Q1V IntKind.u64 x.1 v4)
 bif (Nat.ble (((List.length x.2.2.1) + (List.length (List.set (List.replicate 1 (0 : Int)) 0 (IntKind.wrap IntKind.u8 v5)))) * 1) 140737488355328) then (let v6 : Int := (IntKind.wrap IntKind.i64 (x.2.1 - (1 : Int)))
 kn (x.1, (v6, ((x.2.2.1 ++ (List.set (List.replicate 1 (0 : Int)) 0 (IntKind.wrap IntKind.u8 v5))), ())))) else (none)) else (none)) else (ke (x.2.2.1, ()))
def Q7.l1 (k : Nat) : Nat → Q7.l1.σ → Option Q7.l1.τ := Q1j (Q7.l1.r k)
def Q7.l1.T : StT := ⟨us 3 ++ .vsl 0 :: .dat (.int .u64) :: .dat (.int .i64) :: us 27, [.vec (.int .u8)]⟩
def Q7.l1.os : List Out := [⟨(.exit 2), [.mask [3], .auto 0], ⟨us 3 ++ .vsl 0 :: us 29, [.vec (.int .u8)]⟩⟩]
def Q7.c (k : Nat) {ρ : Type} (n : Int) (K : ByteArray × Unit → Option ρ) : Option ρ :=
 (Q7.l0 k k (n, ((List.set (List.replicate 1 (0 : Int)) 0 (128 : Int)), ()))).bind fun t2 => let v3 : Int := (IntKind.wrap IntKind.u64 ((8 : Int) * t2.1))
 (Q7.l1 k k (v3, ((7 : Int), (t2.2.1, ())))).bind fun t7 => K ((bytesOf t7.1), ())
def Q7 (k : Nat) (n : Int) : Option (ByteArray × Unit) := Q7.c k n some
def Q7.tin : List Ty := [(.int .u64)]
def Q7.tout : List Ty := [.str]
def Q7.sem (k : Nat) : QP := Q15 Q7.tin Q7.tout fun x => Q7 k x.1
noncomputable def Q7.ctx (k : Nat) : Ctx := ⟨Try.prog, gam []⟩
theorem Q7.gok (k : Nat) : ∀ f, Qw Try.prog f ((Q7.ctx k).Γ f) := Q0b
theorem Q7.l0.round (k : Nat) : Q1e (Q7.ctx k) (Q0K (Func.code Try.f94) [1, 1, 0, 0, 0]) (.nil) Q7.l0.T [.mask [0, 3], .auto 0] Q7.l0.os (Q7.l0.r k) := by
 intro ρ x kn ke; kernel_rfl
theorem Q7.l0.ok (k : Nat) : StOK 0 Try.prog (.loop (Q0K (Func.code Try.f94) [1, 1, 0, 0, 0])) (Q01 Q7.l0.T Q7.l0.os (Q7.l0 k k)) :=
 Q1i (C := Q7.ctx k) (Q7.gok k) Try.mix Q1.nil (by kernel_rfl) (by kernel_rfl) (by kernel_rfl) (Q7.l0.round k) k
theorem Q7.l1.round (k : Nat) : Q1e (Q7.ctx k) (Q0K (Func.code Try.f94) [1, 1, 1, 1, 0, 1, 0, 0]) (.nil) Q7.l1.T [.mask [3, 4, 5], .auto 0] Q7.l1.os (Q7.l1.r k) := by
 intro ρ x kn ke; kernel_rfl
theorem Q7.l1.ok (k : Nat) : StOK 0 Try.prog (.loop (Q0K (Func.code Try.f94) [1, 1, 1, 1, 0, 1, 0, 0])) (Q01 Q7.l1.T Q7.l1.os (Q7.l1 k k)) :=
 Q1i (C := Q7.ctx k) (Q7.gok k) Try.mix Q1.nil (by kernel_rfl) (by kernel_rfl) (by kernel_rfl) (Q7.l1.round k) k
def Q7.ann (k : Nat) : Ann := .node [] none (.nil) (.node [] none (.nil) (.node [] none (.node [] none (.node [.mask [0, 3], .auto 0] (some (Q01 Q7.l0.T Q7.l0.os (Q7.l0 k k))) .nil .nil) (.nil)) (.node [] none (.nil) (.node [] none (.node [] none (.nil) (.node [] none (.node [.mask [3, 4, 5], .auto 0] (some (Q01 Q7.l1.T Q7.l1.os (Q7.l1 k k))) .nil .nil) (.nil))) (.nil)))))
theorem Q7.body (k : Nat) : Q1n (Q7.ctx k) Try.f94 (Func.code Try.f94) (Q7.ann k) Q7.tin Q7.tout (fun x K => Q7.c k x.1 K) := by
 intro ρ x K; kernel_rfl
theorem Q7.sem_ok (k : Nat) : Qw Try.prog 94 (Q7.sem k) :=
 Q11 (C := Q7.ctx k) (Q7.gok k) Try.mix (c := Func.code Try.f94) (ann := Q7.ann k) (tin := Q7.tin) (tout := Q7.tout) (fun x K => Q7.c k x.1 K) Try.func94 (by kernel_rfl) (by kernel_rfl) (Q1.seq Q1.nil (Q1.seq Q1.nil (Q1.seq (Q1.block (Q1.loop (by kernel_rfl) (Q7.l0.ok k))) (Q1.seq Q1.nil (Q1.seq (Q1.seq Q1.nil (Q1.block (Q1.loop (by kernel_rfl) (Q7.l1.ok k)))) Q1.nil))))) (Q7.body k)
def Q0q.c (k : Nat) {ρ : Type}  (K : (List Int) × Unit → Option ρ) : Option ρ :=
 let v0 : (List Int) := (List.set (List.set (List.set (List.set (List.set (List.set (List.set (List.set (List.replicate 8 (0 : Int)) 0 (1779033703 : Int)) 1 (3144134277 : Int)) 2 (1013904242 : Int)) 3 (2773480762 : Int)) 4 (1359893119 : Int)) 5 (2600822924 : Int)) 6 (528734635 : Int)) 7 (1541459225 : Int))
 K (v0, ())
def Q0q (k : Nat)  : Option Qeh := Q0q.c k  some
def Q0q.tin : List Ty := []
def Q0q.tout : List Ty := [Qef]
def Q0q.sem (k : Nat) : QP := Q15 Q0q.tin Q0q.tout fun x => Q0q k 
noncomputable def Q0q.ctx (k : Nat) : Ctx := ⟨Try.prog, gam []⟩
theorem Q0q.gok (k : Nat) : ∀ f, Qw Try.prog f ((Q0q.ctx k).Γ f) := Q0b
def Q0q.ann (k : Nat) : Ann := .nil
theorem Q0q.body (k : Nat) : Q1n (Q0q.ctx k) Try.f95 (Func.code Try.f95) (Q0q.ann k) Q0q.tin Q0q.tout (fun x K => Q0q.c k  K) := by
 intro ρ x K; kernel_rfl
theorem Q0q.sem_ok (k : Nat) : Qw Try.prog 95 (Q0q.sem k) :=
 Q11 (C := Q0q.ctx k) (Q0q.gok k) Try.mix (c := Func.code Try.f95) (ann := Q0q.ann k) (tin := Q0q.tin) (tout := Q0q.tout) (fun x K => Q0q.c k  K) Try.func95 (by kernel_rfl) (by kernel_rfl) Q1.nil (Q0q.body k)
def QX.c (k : Nat) {ρ : Type}  (K : (List Int) × Unit → Option ρ) : Option ρ :=
 let v0 : (List Int) := (List.set (List.set (List.set (List.set (List.set (List.set (List.set (List.set (List.set (List.set (List.set (List.set (List.set (List.set (List.set (List.set (List.set (List.set (List.set (List.set (List.set (List.set (List.set (List.set (List.set (List.set (List.set (List.set (List.set (List.set (List.set (List.set (List.set (List.set (List.set (List.set (List.set (List.set (List.set (List.set (List.set (List.set (List.set (List.set (List.set (List.set (List.set (List.set (List.set (List.set (List.set (List.set (List.set (List.set (List.set (List.set (List.set (List.set (List.set (List.set (List.set (List.set (List.set (List.set (List.replicate 64 (0 : Int)) 0 (1116352408 : Int)) 1 (1899447441 : Int)) 2 (3049323471 : Int)) 3 (3921009573 : Int)) 4 (961987163 : Int)) 5 (1508970993 : Int)) 6 (2453635748 : Int)) 7 (2870763221 : Int)) 8 (3624381080 : Int)) 9 (310598401 : Int)) 10 (607225278 : Int)) 11 (1426881987 : Int)) 12 (1925078388 : Int)) 13 (2162078206 : Int)) 14 (2614888103 : Int)) 15 (3248222580 : Int)) 16 (3835390401 : Int)) 17 (4022224774 : Int)) 18 (264347078 : Int)) 19 (604807628 : Int)) 20 (770255983 : Int)) 21 (1249150122 : Int)) 22 (1555081692 : Int)) 23 (1996064986 : Int)) 24 (2554220882 : Int)) 25 (2821834349 : Int)) 26 (2952996808 : Int)) 27 (3210313671 : Int)) 28 (3336571891 : Int)) 29 (3584528711 : Int)) 30 (113926993 : Int)) 31 (338241895 : Int)) 32 (666307205 : Int)) 33 (773529912 : Int)) 34 (1294757372 : Int)) 35 (1396182291 : Int)) 36 (1695183700 : Int)) 37 (1986661051 : Int)) 38 (2177026350 : Int)) 39 (2456956037 : Int)) 40 (2730485921 : Int)) 41 (2820302411 : Int)) 42 (3259730800 : Int)) 43 (3345764771 : Int)) 44 (3516065817 : Int)) 45 (3600352804 : Int)) 46 (4094571909 : Int)) 47 (275423344 : Int)) 48 (430227734 : Int)) 49 (506948616 : Int)) 50 (659060556 : Int)) 51 (883997877 : Int)) 52 (958139571 : Int)) 53 (1322822218 : Int)) 54 (1537002063 : Int)) 55 (1747873779 : Int)) 56 (1955562222 : Int)) 57 (2024104815 : Int)) 58 (2227730452 : Int)) 59 (2361852424 : Int)) 60 (2428436474 : Int)) 61 (2756734187 : Int)) 62 (3204031479 : Int)) 63 (3329325298 : Int))
 K (v0, ())
def QX (k : Nat)  : Option Qeh := QX.c k  some
def QX.tin : List Ty := []
def QX.tout : List Ty := [Qee]
def QX.sem (k : Nat) : QP := Q15 QX.tin QX.tout fun x => QX k 
noncomputable def QX.ctx (k : Nat) : Ctx := ⟨Try.prog, gam []⟩
theorem QX.gok (k : Nat) : ∀ f, Qw Try.prog f ((QX.ctx k).Γ f) := Q0b
def QX.ann (k : Nat) : Ann := .nil
theorem QX.body (k : Nat) : Q1n (QX.ctx k) Try.f102 (Func.code Try.f102) (QX.ann k) QX.tin QX.tout (fun x K => QX.c k  K) := by
 intro ρ x K; kernel_rfl
theorem QX.sem_ok (k : Nat) : Qw Try.prog 102 (QX.sem k) :=
 Q11 (C := QX.ctx k) (QX.gok k) Try.mix (c := Func.code Try.f102) (ann := QX.ann k) (tin := QX.tin) (tout := QX.tout) (fun x K => QX.c k  K) Try.func102 (by kernel_rfl) (by kernel_rfl) Q1.nil (QX.body k)
def QW.c (k : Nat) {ρ : Type} (n : Int) (by_1 : Int) (K : Int × Unit → Option ρ) : Option ρ :=
 bif (decide ((0 : Int) ≤ by_1)) then (let v0 : Int := (IntKind.wrap IntKind.i64 ((32 : Int) - by_1))
 bif (decide ((0 : Int) ≤ v0)) then (let v1 : Int := (Q0Z BinOp.or IntKind.u32 (Q1V IntKind.u32 n by_1) (Q2T IntKind.u32 n v0))
 K (v1, ())) else (none)) else (none)
def QW (k : Nat) (n : Int) (by_1 : Int) : Option (Int × Unit) := QW.c k n by_1 some
def QW.tin : List Ty := [(.int .u32), (.int .i64)]
def QW.tout : List Ty := [(.int .u32)]
def QW.sem (k : Nat) : QP := Q15 QW.tin QW.tout fun x => QW k x.1 x.2.1
noncomputable def QW.ctx (k : Nat) : Ctx := ⟨Try.prog, gam []⟩
theorem QW.gok (k : Nat) : ∀ f, Qw Try.prog f ((QW.ctx k).Γ f) := Q0b
def QW.ann (k : Nat) : Ann := .nil
theorem QW.body (k : Nat) : Q1n (QW.ctx k) Try.f103 (Func.code Try.f103) (QW.ann k) QW.tin QW.tout (fun x K => QW.c k x.1 x.2.1 K) := by
 intro ρ x K; kernel_rfl
theorem QW.sem_ok (k : Nat) : Qw Try.prog 103 (QW.sem k) :=
 Q11 (C := QW.ctx k) (QW.gok k) Try.mix (c := Func.code Try.f103) (ann := QW.ann k) (tin := QW.tin) (tout := QW.tout) (fun x K => QW.c k x.1 x.2.1 K) Try.func103 (by kernel_rfl) (by kernel_rfl) Q1.nil (QW.body k)
abbrev Q0.l0.σ : Type := Int × (List Int) × (List Int) × (List Int) × (List Int) × (List Int) × Unit
abbrev Q0.l0.τ : Type := ((List Int) × (List Int) × (List Int) × (List Int) × Unit)
def Q0.l0.r (k : Nat) {ρ : Type} (x : Q0.l0.σ) (kn : Q0.l0.σ → Option ρ) (ke : Q0.l0.τ → Option ρ) : Option ρ :=
 bif (decide (x.1 < (64 : Int))) then (bif (decide (x.1 < (16 : Int))) then (let v2 : Int := (IntKind.wrap IntKind.i64 ((4 : Int) * x.1))
 bif (decide (((0 : Int) ≤ v2) ∧ (v2 < ((64 : Nat) : Int)))) then (let v3 : Int := (List.getD x.2.2.1 (Int.toNat v2) (0 : Int))
 let v4 : Int := (Q2T IntKind.u32 (IntKind.wrap IntKind.u32 v3) (24 : Int))
 let v5 : Int := (IntKind.wrap IntKind.i64 ((4 : Int) * x.1))
 let v6 : Int := (IntKind.wrap IntKind.i64 (v5 + (1 : Int)))
 bif (decide (((0 : Int) ≤ v6) ∧ (v6 < ((64 : Nat) : Int)))) then (let v7 : Int := (List.getD x.2.2.1 (Int.toNat v6) (0 : Int))
 let v8 : Int := (Q2T IntKind.u32 (IntKind.wrap IntKind.u32 v7) (16 : Int))
 let v9 : Int := (IntKind.wrap IntKind.i64 ((4 : Int) * x.1))
 let v10 : Int := (IntKind.wrap IntKind.i64 (v9 + (2 : Int)))
 bif (decide (((0 : Int) ≤ v10) ∧ (v10 < ((64 : Nat) : Int)))) then (let v11 : Int := (List.getD x.2.2.1 (Int.toNat v10) (0 : Int))
 let v12 : Int := (Q2T IntKind.u32 (IntKind.wrap IntKind.u32 v11) (8 : Int))
 let v13 : Int := (Q0Z BinOp.or IntKind.u32 (Q0Z BinOp.or IntKind.u32 v4 v8) v12)
 let v14 : Int := (IntKind.wrap IntKind.i64 ((4 : Int) * x.1))
 let v15 : Int := (IntKind.wrap IntKind.i64 (v14 + (3 : Int)))
 bif (decide (((0 : Int) ≤ v15) ∧ (v15 < ((64 : Nat) : Int)))) then (let v16 : Int := (List.getD x.2.2.1 (Int.toNat v15) (0 : Int))
 bif (decide (((0 : Int) ≤ x.1) ∧ (x.1 < ((64 : Nat) : Int)))) then (let v17 : Int := (IntKind.wrap IntKind.i64 (x.1 + (1 : Int)))
 kn (v17, (x.2.1, (x.2.2.1, (x.2.2.2.1, (x.2.2.2.2.1, ((List.set x.2.2.2.2.2.1 (Int.toNat x.1) (Q0Z BinOp.or IntKind.u32 v13 (IntKind.wrap IntKind.u32 v16))), ()))))))) else (none)) else (none)) else (none)) else (none)) else (none)) else (let v18 : Int := (IntKind.wrap IntKind.i64 (x.1 - (15 : Int)))
 bif (decide (((0 : Int) ≤ v18) ∧ (v18 < ((64 : Nat) : Int)))) then (let v19 : Int := (List.getD x.2.2.2.2.2.1 (Int.toNat v18) (0 : Int))
 let v20 : Int := (IntKind.wrap IntKind.i64 (x.1 - (2 : Int)))
 bif (decide (((0 : Int) ≤ v20) ∧ (v20 < ((64 : Nat) : Int)))) then (let v21 : Int := (List.getD x.2.2.2.2.2.1 (Int.toNat v20) (0 : Int))
 (QW k v21 (17 : Int)).bind fun t22 => (QW k v21 (19 : Int)).bind fun t23 => let v24 : Int := (Q0Z BinOp.xor IntKind.u32 t22.1 t23.1)
 let v25 : Int := (Q1V IntKind.u32 v21 (10 : Int))
 let v26 : Int := (IntKind.wrap IntKind.i64 (x.1 - (7 : Int)))
 bif (decide (((0 : Int) ≤ v26) ∧ (v26 < ((64 : Nat) : Int)))) then (let v27 : Int := (List.getD x.2.2.2.2.2.1 (Int.toNat v26) (0 : Int))
 let v28 : Int := (IntKind.wrap IntKind.u32 ((Q0Z BinOp.xor IntKind.u32 v24 v25) + v27))
 (QW k v19 (7 : Int)).bind fun t29 => (QW k v19 (18 : Int)).bind fun t30 => let v31 : Int := (Q0Z BinOp.xor IntKind.u32 t29.1 t30.1)
 let v32 : Int := (Q1V IntKind.u32 v19 (3 : Int))
 let v33 : Int := (IntKind.wrap IntKind.u32 (v28 + (Q0Z BinOp.xor IntKind.u32 v31 v32)))
 let v34 : Int := (IntKind.wrap IntKind.i64 (x.1 - (16 : Int)))
 bif (decide (((0 : Int) ≤ v34) ∧ (v34 < ((64 : Nat) : Int)))) then (let v35 : Int := (List.getD x.2.2.2.2.2.1 (Int.toNat v34) (0 : Int))
 let v36 : Int := (IntKind.wrap IntKind.u32 (v33 + v35))
 bif (decide (((0 : Int) ≤ x.1) ∧ (x.1 < ((64 : Nat) : Int)))) then (let v37 : Int := (IntKind.wrap IntKind.i64 (x.1 + (1 : Int)))
 kn (v37, (x.2.1, (x.2.2.1, (x.2.2.2.1, (x.2.2.2.2.1, ((List.set x.2.2.2.2.2.1 (Int.toNat x.1) v36), ()))))))) else (none)) else (none)) else (none)) else (none)) else (none))) else (ke (x.2.1, (x.2.2.2.1, (x.2.2.2.2.1, (x.2.2.2.2.2.1, ())))))
def Q0.l0 (k : Nat) : Nat → Q0.l0.σ → Option Q0.l0.τ := Q1j (Q0.l0.r k)
def Q0.l0.T : StT := ⟨us 2 ++ .ptr 0 [] :: .ptr 1 [] :: .ptr 2 [] :: .ptr 3 [] :: .ptr 4 [] :: .dat (.int .i64) :: us 181, [.dat Qef, .dat (.arr 64 (.int .u8)), .dat Qef, .dat Qee, .dat Qee]⟩
def Q0.l0.os : List Out := [⟨(.exit 0), [.mask [2, 4, 5, 6], .auto 0], ⟨us 2 ++ .ptr 0 [] :: us 1 ++ .ptr 1 [] :: .ptr 2 [] :: .ptr 3 [] :: us 182, [.dat Qef, .dat Qef, .dat Qee, .dat Qee]⟩⟩]
abbrev Q0.l1.σ : Type := Int × (List Int) × (List Int) × (List Int) × (List Int) × (List Int) × Unit
abbrev Q0.l1.τ : Type := ((List Int) × (List Int) × (List Int) × Unit)
def Q0.l1.r (k : Nat) {ρ : Type} (x : Q0.l1.σ) (kn : Q0.l1.σ → Option ρ) (ke : Q0.l1.τ → Option ρ) : Option ρ :=
 bif (decide (x.1 < (64 : Int))) then (let v40 : Int := (List.getD x.2.2.2.2.2.1 4 (0 : Int))
 let v41 : Int := (List.getD x.2.2.2.2.2.1 0 (0 : Int))
 let v42 : Int := (List.getD x.2.2.2.2.2.1 7 (0 : Int))
 (QW k v40 (6 : Int)).bind fun t43 => (QW k v40 (11 : Int)).bind fun t44 => let v45 : Int := (Q0Z BinOp.xor IntKind.u32 t43.1 t44.1)
 (QW k v40 (25 : Int)).bind fun t46 => let v47 : Int := (Q0Z BinOp.xor IntKind.u32 v45 t46.1)
 let v48 : Int := (IntKind.wrap IntKind.u32 (v42 + v47))
 let v49 : Int := (List.getD x.2.2.2.2.2.1 5 (0 : Int))
 let v50 : Int := (IntKind.wrap IntKind.u32 ((4294967295 : Int) - v40))
 let v51 : Int := (List.getD x.2.2.2.2.2.1 6 (0 : Int))
 let v52 : Int := (Q0Z BinOp.xor IntKind.u32 (Q0Z BinOp.and IntKind.u32 v40 v49) (Q0Z BinOp.and IntKind.u32 v50 v51))
 let v53 : Int := (IntKind.wrap IntKind.u32 (v48 + v52))
 bif (decide (((0 : Int) ≤ x.1) ∧ (x.1 < ((64 : Nat) : Int)))) then (let v54 : Int := (List.getD x.2.2.2.1 (Int.toNat x.1) (0 : Int))
 let v55 : Int := (IntKind.wrap IntKind.u32 (v53 + v54))
 bif (decide (((0 : Int) ≤ x.1) ∧ (x.1 < ((64 : Nat) : Int)))) then (let v56 : Int := (List.getD x.2.2.2.2.1 (Int.toNat x.1) (0 : Int))
 let v57 : Int := (IntKind.wrap IntKind.u32 (v55 + v56))
 (QW k v41 (2 : Int)).bind fun t58 => (QW k v41 (13 : Int)).bind fun t59 => let v60 : Int := (Q0Z BinOp.xor IntKind.u32 t58.1 t59.1)
 (QW k v41 (22 : Int)).bind fun t61 => let v62 : Int := (Q0Z BinOp.xor IntKind.u32 v60 t61.1)
 let v63 : Int := (List.getD x.2.2.2.2.2.1 1 (0 : Int))
 let v64 : Int := (List.getD x.2.2.2.2.2.1 2 (0 : Int))
 let v65 : Int := (Q0Z BinOp.xor IntKind.u32 (Q0Z BinOp.and IntKind.u32 v41 v63) (Q0Z BinOp.and IntKind.u32 v41 v64))
 let v66 : Int := (List.getD x.2.2.2.2.2.1 1 (0 : Int))
 let v67 : Int := (List.getD x.2.2.2.2.2.1 2 (0 : Int))
 let v68 : Int := (Q0Z BinOp.xor IntKind.u32 v65 (Q0Z BinOp.and IntKind.u32 v66 v67))
 let v69 : Int := (IntKind.wrap IntKind.u32 (v62 + v68))
 let v70 : Int := (IntKind.wrap IntKind.u32 (v57 + v69))
 let v71 : Int := (List.getD x.2.2.2.2.2.1 0 (0 : Int))
 let v72 : Int := (List.getD x.2.2.2.2.2.1 1 (0 : Int))
 let v73 : Int := (List.getD x.2.2.2.2.2.1 2 (0 : Int))
 let v74 : Int := (List.getD x.2.2.2.2.2.1 3 (0 : Int))
 let v75 : Int := (IntKind.wrap IntKind.u32 (v74 + v57))
 let v76 : Int := (List.getD x.2.2.2.2.2.1 4 (0 : Int))
 let v77 : Int := (List.getD x.2.2.2.2.2.1 5 (0 : Int))
 let v78 : Int := (List.getD x.2.2.2.2.2.1 6 (0 : Int))
 let v79 : (List Int) := (List.set (List.set (List.set (List.set (List.set (List.set (List.set (List.set (List.replicate 8 (0 : Int)) 0 v70) 1 v71) 2 v72) 3 v73) 4 v75) 5 v76) 6 v77) 7 v78)
 let v80 : Int := (IntKind.wrap IntKind.i64 (x.1 + (1 : Int)))
 kn (v80, (x.2.1, (x.2.2.1, (x.2.2.2.1, (x.2.2.2.2.1, (v79, ()))))))) else (none)) else (none)) else (ke (x.2.1, (x.2.2.1, (x.2.2.2.2.2.1, ()))))
def Q0.l1 (k : Nat) : Nat → Q0.l1.σ → Option Q0.l1.τ := Q1j (Q0.l1.r k)
def Q0.l1.T : StT := ⟨us 2 ++ .ptr 0 [] :: us 1 ++ .ptr 1 [] :: .ptr 2 [] :: .ptr 3 [] :: us 3 ++ .ptr 4 [] :: .dat (.int .i64) :: us 177, [.dat Qef, .dat Qef, .dat Qee, .dat Qee, .dat Qef]⟩
def Q0.l1.os : List Out := [⟨(.exit 2), [.mask [2, 4, 10], .auto 0], ⟨us 2 ++ .ptr 0 [] :: us 1 ++ .ptr 1 [] :: us 5 ++ .ptr 2 [] :: us 178, [.dat Qef, .dat Qef, .dat Qef]⟩⟩]
abbrev Q0.l2.σ : Type := Int × (List Int) × (List Int) × (List Int) × Unit
abbrev Q0.l2.τ : Type := ((List Int) × (List Int) × Unit)
def Q0.l2.r (k : Nat) {ρ : Type} (x : Q0.l2.σ) (kn : Q0.l2.σ → Option ρ) (ke : Q0.l2.τ → Option ρ) : Option ρ :=
 bif (decide (x.1 < (8 : Int))) then (bif (decide (((0 : Int) ≤ x.1) ∧ (x.1 < ((8 : Nat) : Int)))) then (let v82 : Int := (List.getD x.2.1 (Int.toNat x.1) (0 : Int))
 bif (decide (((0 : Int) ≤ x.1) ∧ (x.1 < ((8 : Nat) : Int)))) then (let v83 : Int := (List.getD x.2.2.2.1 (Int.toNat x.1) (0 : Int))
 let v84 : Int := (IntKind.wrap IntKind.u32 (v82 + v83))
 bif (decide (((0 : Int) ≤ x.1) ∧ (x.1 < ((8 : Nat) : Int)))) then (let v85 : Int := (IntKind.wrap IntKind.i64 (x.1 + (1 : Int)))
 kn (v85, ((List.set x.2.1 (Int.toNat x.1) v84), (x.2.2.1, (x.2.2.2.1, ()))))) else (none)) else (none)) else (none)) else (ke (x.2.1, (x.2.2.1, ())))
def Q0.l2 (k : Nat) : Nat → Q0.l2.σ → Option Q0.l2.τ := Q1j (Q0.l2.r k)
def Q0.l2.T : StT := ⟨us 2 ++ .ptr 0 [] :: us 1 ++ .ptr 1 [] :: us 5 ++ .ptr 2 [] :: us 5 ++ .dat (.int .i64) :: us 172, [.dat Qef, .dat Qef, .dat Qef]⟩
def Q0.l2.os : List Out := [⟨(.exit 4), [.mask [2, 4], .auto 0], ⟨us 2 ++ .ptr 0 [] :: us 1 ++ .ptr 1 [] :: us 184, [.dat Qef, .dat Qef]⟩⟩]
def Q0.c (k : Nat) {ρ : Type} (s : (List Int)) (block : (List Int)) (K : (List Int) × Unit → Option ρ) : Option ρ :=
 (QX k ).bind fun t0 => let v1 : (List Int) := (List.replicate 64 (0 : Int))
 (Q0.l0 k k ((0 : Int), (s, (block, ((List.replicate 8 (0 : Int)), (t0.1, (v1, ()))))))).bind fun t38 => let v39 : (List Int) := t38.1
 (Q0.l1 k k ((0 : Int), (t38.1, (t38.2.1, (t38.2.2.1, (t38.2.2.2.1, (v39, ()))))))).bind fun t81 => (Q0.l2 k k ((0 : Int), (t81.1, (t81.2.1, (t81.2.2.1, ()))))).bind fun t86 => let v87 : (List Int) := t86.1
 K (v87, ())
def Q0 (k : Nat) (s : (List Int)) (block : (List Int)) : Option Qeh := Q0.c k s block some
def Q0.tin : List Ty := [Qef, (.arr 64 (.int .u8))]
def Q0.tout : List Ty := [Qef]
def Q0.sem (k : Nat) : QP := Q15 Q0.tin Q0.tout fun x => Q0 k x.1 x.2.1
noncomputable def Q0.ctx (k : Nat) : Ctx := ⟨Try.prog, gam [(102, (QX.sem k)), (103, (QW.sem k))]⟩
theorem Q0.gok (k : Nat) : ∀ f, Qw Try.prog f ((Q0.ctx k).Γ f) := (Qe (QX.sem_ok k) (Qe (QW.sem_ok k) Q0b))
theorem Q0.l0.round (k : Nat) : Q1e (Q0.ctx k) (Q0K (Func.code Try.f96) [1, 1, 1, 0, 1, 0, 0]) (.nil) Q0.l0.T [.mask [2, 3, 4, 5, 6, 7], .auto 0] Q0.l0.os (Q0.l0.r k) := by
 intro ρ x kn ke; kernel_rfl
theorem Q0.l0.ok (k : Nat) : StOK 0 Try.prog (.loop (Q0K (Func.code Try.f96) [1, 1, 1, 0, 1, 0, 0])) (Q01 Q0.l0.T Q0.l0.os (Q0.l0 k k)) :=
 Q1i (C := Q0.ctx k) (Q0.gok k) Try.mix Q1.nil (by kernel_rfl) (by kernel_rfl) (by kernel_rfl) (Q0.l0.round k) k
theorem Q0.l1.round (k : Nat) : Q1e (Q0.ctx k) (Q0K (Func.code Try.f96) [1, 1, 1, 1, 1, 0, 1, 0, 0]) (.nil) Q0.l1.T [.mask [2, 4, 5, 6, 10, 11], .auto 0] Q0.l1.os (Q0.l1.r k) := by
 intro ρ x kn ke; kernel_rfl
theorem Q0.l1.ok (k : Nat) : StOK 0 Try.prog (.loop (Q0K (Func.code Try.f96) [1, 1, 1, 1, 1, 0, 1, 0, 0])) (Q01 Q0.l1.T Q0.l1.os (Q0.l1 k k)) :=
 Q1i (C := Q0.ctx k) (Q0.gok k) Try.mix Q1.nil (by kernel_rfl) (by kernel_rfl) (by kernel_rfl) (Q0.l1.round k) k
theorem Q0.l2.round (k : Nat) : Q1e (Q0.ctx k) (Q0K (Func.code Try.f96) [1, 1, 1, 1, 1, 1, 0, 1, 0, 0]) (.nil) Q0.l2.T [.mask [2, 4, 10, 16], .auto 0] Q0.l2.os (Q0.l2.r k) := by
 intro ρ x kn ke; kernel_rfl
theorem Q0.l2.ok (k : Nat) : StOK 0 Try.prog (.loop (Q0K (Func.code Try.f96) [1, 1, 1, 1, 1, 1, 0, 1, 0, 0])) (Q01 Q0.l2.T Q0.l2.os (Q0.l2 k k)) :=
 Q1i (C := Q0.ctx k) (Q0.gok k) Try.mix Q1.nil (by kernel_rfl) (by kernel_rfl) (by kernel_rfl) (Q0.l2.round k) k
def Q0.ann (k : Nat) : Ann := .node [] none (.nil) (.node [] none (.nil) (.node [] none (.nil) (.node [] none (.node [] none (.nil) (.node [] none (.node [.mask [2, 3, 4, 5, 6, 7], .auto 0] (some (Q01 Q0.l0.T Q0.l0.os (Q0.l0 k k))) .nil .nil) (.nil))) (.node [] none (.nil) (.node [] none (.node [] none (.nil) (.node [] none (.node [.mask [2, 4, 5, 6, 10, 11], .auto 0] (some (Q01 Q0.l1.T Q0.l1.os (Q0.l1 k k))) .nil .nil) (.nil))) (.node [] none (.node [] none (.nil) (.node [] none (.node [.mask [2, 4, 10, 16], .auto 0] (some (Q01 Q0.l2.T Q0.l2.os (Q0.l2 k k))) .nil .nil) (.nil))) (.nil)))))))
theorem Q0.body (k : Nat) : Q1n (Q0.ctx k) Try.f96 (Func.code Try.f96) (Q0.ann k) Q0.tin Q0.tout (fun x K => Q0.c k x.1 x.2.1 K) := by
 intro ρ x K; kernel_rfl
theorem Q0.sem_ok (k : Nat) : Qw Try.prog 96 (Q0.sem k) :=
 Q11 (C := Q0.ctx k) (Q0.gok k) Try.mix (c := Func.code Try.f96) (ann := Q0.ann k) (tin := Q0.tin) (tout := Q0.tout) (fun x K => Q0.c k x.1 x.2.1 K) Try.func96 (by kernel_rfl) (by kernel_rfl) (Q1.seq Q1.nil (Q1.seq Q1.nil (Q1.seq Q1.nil (Q1.seq (Q1.seq Q1.nil (Q1.block (Q1.loop (by kernel_rfl) (Q0.l0.ok k)))) (Q1.seq Q1.nil (Q1.seq (Q1.seq Q1.nil (Q1.block (Q1.loop (by kernel_rfl) (Q0.l1.ok k)))) (Q1.seq (Q1.seq Q1.nil (Q1.block (Q1.loop (by kernel_rfl) (Q0.l2.ok k)))) Q1.nil))))))) (Q0.body k)
abbrev Q2.l1.σ : Type := Int × Int × (List Int) × (List Int) × (List Int) × Unit
abbrev Q2.l1.τ : Type := (Int × (List Int) × (List Int) × (List Int) × Unit)
def Q2.l1.r (k : Nat) {ρ : Type} (x : Q2.l1.σ) (kn : Q2.l1.σ → Option ρ) (ke : Q2.l1.τ → Option ρ) : Option ρ :=
 bif (decide (x.2.1 < (4 : Int))) then (let v1 : Int := (IntKind.wrap IntKind.i64 ((4 : Int) * x.1))
 let v2 : Int := (IntKind.wrap IntKind.i64 (v1 + x.2.1))
 bif (decide (((0 : Int) ≤ x.1) ∧ (x.1 < ((8 : Nat) : Int)))) then (let v3 : Int := (List.getD x.2.2.1 (Int.toNat x.1) (0 : Int))
 let v4 : Int := (IntKind.wrap IntKind.i64 ((8 : Int) * x.2.1))
 let v5 : Int := (IntKind.wrap IntKind.i64 ((24 : Int) - v4))
 bif (decide ((0 : Int) ≤ v5)) then (bif (decide (((0 : Int) ≤ v2) ∧ (v2 < ((32 : Nat) : Int)))) then (let v6 : Int := (IntKind.wrap IntKind.i64 (x.2.1 + (1 : Int)))
 kn (x.1, (v6, (x.2.2.1, (x.2.2.2.1, ((List.set x.2.2.2.2.1 (Int.toNat v2) (IntKind.wrap IntKind.u8 (Q1V IntKind.u32 v3 v5))), ())))))) else (none)) else (none)) else (none)) else (ke (x.1, (x.2.2.1, (x.2.2.2.1, (x.2.2.2.2.1, ())))))
def Q2.l1 (k : Nat) : Nat → Q2.l1.σ → Option Q2.l1.τ := Q1j (Q2.l1.r k)
def Q2.l1.T : StT := ⟨us 1 ++ .ptr 0 [] :: .ptr 1 [] :: .ptr 2 [] :: .dat (.int .i64) :: .dat (.int .i64) :: us 23, [.dat Qef, .dat Qeg, .dat Qeg]⟩
def Q2.l1.os : List Out := [⟨(.exit 2), [.mask [1, 2, 3, 4], .auto 0], ⟨us 1 ++ .ptr 0 [] :: .ptr 1 [] :: .ptr 2 [] :: .dat (.int .i64) :: us 24, [.dat Qef, .dat Qeg, .dat Qeg]⟩⟩]
abbrev Q2.l0.σ : Type := Int × (List Int) × (List Int) × (List Int) × Unit
abbrev Q2.l0.τ : Type := ((List Int) × (List Int) × Unit)
def Q2.l0.r (k : Nat) {ρ : Type} (x : Q2.l0.σ) (kn : Q2.l0.σ → Option ρ) (ke : Q2.l0.τ → Option ρ) : Option ρ :=
 bif (decide (x.1 < (8 : Int))) then ((Q2.l1 k k (x.1, ((0 : Int), (x.2.1, (x.2.2.1, (x.2.2.2.1, ())))))).bind fun t7 => let v8 : Int := (IntKind.wrap IntKind.i64 (t7.1 + (1 : Int)))
 kn (v8, (t7.2.1, (t7.2.2.1, (t7.2.2.2.1, ()))))) else (ke (x.2.2.1, (x.2.2.2.1, ())))
def Q2.l0 (k : Nat) : Nat → Q2.l0.σ → Option Q2.l0.τ := Q1j (Q2.l0.r k)
def Q2.l0.T : StT := ⟨us 1 ++ .ptr 0 [] :: .ptr 1 [] :: .ptr 2 [] :: .dat (.int .i64) :: us 24, [.dat Qef, .dat Qeg, .dat Qeg]⟩
def Q2.l0.os : List Out := [⟨(.exit 0), [.mask [2, 3], .auto 0], ⟨us 2 ++ .ptr 0 [] :: .ptr 1 [] :: us 25, [.dat Qeg, .dat Qeg]⟩⟩]
def Q2.c (k : Nat) {ρ : Type} (x_0 : (List Int)) (K : (List Int) × Unit → Option ρ) : Option ρ :=
 let v0 : (List Int) := (List.replicate 32 (0 : Int))
 (Q2.l0 k k ((0 : Int), (x_0, ((List.replicate 32 (0 : Int)), (v0, ()))))).bind fun t9 => let v10 : (List Int) := t9.2.1
 K (v10, ())
def Q2 (k : Nat) (x_0 : (List Int)) : Option Qeh := Q2.c k x_0 some
def Q2.tin : List Ty := [Qef]
def Q2.tout : List Ty := [Qeg]
def Q2.sem (k : Nat) : QP := Q15 Q2.tin Q2.tout fun x => Q2 k x.1
noncomputable def Q2.ctx (k : Nat) : Ctx := ⟨Try.prog, gam []⟩
theorem Q2.gok (k : Nat) : ∀ f, Qw Try.prog f ((Q2.ctx k).Γ f) := Q0b
theorem Q2.l1.round (k : Nat) : Q1e (Q2.ctx k) (Q0K (Func.code Try.f97) [1, 1, 0, 1, 0, 0, 1, 0, 0, 1, 0, 0]) (.nil) Q2.l1.T [.mask [1, 2, 3, 4, 5], .auto 0] Q2.l1.os (Q2.l1.r k) := by
 intro ρ x kn ke; kernel_rfl
theorem Q2.l1.ok (k : Nat) : StOK 0 Try.prog (.loop (Q0K (Func.code Try.f97) [1, 1, 0, 1, 0, 0, 1, 0, 0, 1, 0, 0])) (Q01 Q2.l1.T Q2.l1.os (Q2.l1 k k)) :=
 Q1i (C := Q2.ctx k) (Q2.gok k) Try.mix Q1.nil (by kernel_rfl) (by kernel_rfl) (by kernel_rfl) (Q2.l1.round k) k
theorem Q2.l0.round (k : Nat) : Q1e (Q2.ctx k) (Q0K (Func.code Try.f97) [1, 1, 0, 1, 0, 0]) (.node [] none (.nil) (.node [] none (.node [] none (.node [] none (.nil) (.node [] none (.node [.mask [1, 2, 3, 4, 5], .auto 0] (some (Q01 Q2.l1.T Q2.l1.os (Q2.l1 k k))) .nil .nil) (.nil))) (.nil)) (.nil))) Q2.l0.T [.mask [1, 2, 3, 4], .auto 0] Q2.l0.os (Q2.l0.r k) := by
 intro ρ x kn ke; kernel_rfl
theorem Q2.l0.ok (k : Nat) : StOK 0 Try.prog (.loop (Q0K (Func.code Try.f97) [1, 1, 0, 1, 0, 0])) (Q01 Q2.l0.T Q2.l0.os (Q2.l0 k k)) :=
 Q1i (C := Q2.ctx k) (Q2.gok k) Try.mix (Q1.seq Q1.nil (Q1.seq (Q1.block (Q1.seq Q1.nil (Q1.block (Q1.loop (by kernel_rfl) (Q2.l1.ok k))))) Q1.nil)) (by kernel_rfl) (by kernel_rfl) (by kernel_rfl) (Q2.l0.round k) k
def Q2.ann (k : Nat) : Ann := .node [] none (.nil) (.node [] none (.nil) (.node [] none (.node [] none (.nil) (.node [] none (.node [.mask [1, 2, 3, 4], .auto 0] (some (Q01 Q2.l0.T Q2.l0.os (Q2.l0 k k))) .nil .nil) (.nil))) (.nil)))
theorem Q2.body (k : Nat) : Q1n (Q2.ctx k) Try.f97 (Func.code Try.f97) (Q2.ann k) Q2.tin Q2.tout (fun x K => Q2.c k x.1 K) := by
 intro ρ x K; kernel_rfl
theorem Q2.sem_ok (k : Nat) : Qw Try.prog 97 (Q2.sem k) :=
 Q11 (C := Q2.ctx k) (Q2.gok k) Try.mix (c := Func.code Try.f97) (ann := Q2.ann k) (tin := Q2.tin) (tout := Q2.tout) (fun x K => Q2.c k x.1 K) Try.func97 (by kernel_rfl) (by kernel_rfl) (Q1.seq Q1.nil (Q1.seq Q1.nil (Q1.seq (Q1.seq Q1.nil (Q1.block (Q1.loop (by kernel_rfl) (Q2.l0.ok k)))) Q1.nil))) (Q2.body k)
abbrev Q6.l1.σ : Type := ByteArray × Int × Int × (List Int) × (List Int) × (List Int) × Unit
abbrev Q6.l1.τ : Type := (ByteArray × Int × (List Int) × (List Int) × (List Int) × Unit)
def Q6.l1.r (k : Nat) {ρ : Type} (x : Q6.l1.σ) (kn : Q6.l1.σ → Option ρ) (ke : Q6.l1.τ → Option ρ) : Option ρ :=
 bif (decide (x.2.2.1 < (64 : Int))) then (let v5 : Int := (IntKind.wrap IntKind.i64 (x.2.1 + x.2.2.1))
 bif (decide (((0 : Int) ≤ v5) ∧ (v5 < (((ByteArray.size x.1) : Nat) : Int)))) then (let v6 : Int := (Q2S x.1 (Int.toNat v5))
 bif (decide (((0 : Int) ≤ x.2.2.1) ∧ (x.2.2.1 < ((64 : Nat) : Int)))) then (let v7 : Int := (IntKind.wrap IntKind.i64 (x.2.2.1 + (1 : Int)))
 kn (x.1, (x.2.1, (v7, (x.2.2.2.1, (x.2.2.2.2.1, ((List.set x.2.2.2.2.2.1 (Int.toNat x.2.2.1) v6), ()))))))) else (none)) else (none)) else (ke (x.1, (x.2.1, (x.2.2.2.1, (x.2.2.2.2.1, (x.2.2.2.2.2.1, ()))))))
def Q6.l1 (k : Nat) : Nat → Q6.l1.σ → Option Q6.l1.τ := Q1j (Q6.l1.r k)
def Q6.l1.T : StT := ⟨.dat .str :: us 1 ++ .ptr 0 [] :: .ptr 1 [] :: .dat (.int .i64) :: .ptr 2 [] :: .dat (.int .i64) :: us 30, [.dat Qeg, .dat Qef, .dat (.arr 64 (.int .u8))]⟩
def Q6.l1.os : List Out := [⟨(.exit 2), [.mask [0, 2, 3, 4, 5], .auto 0], ⟨.dat .str :: us 1 ++ .ptr 0 [] :: .ptr 1 [] :: .dat (.int .i64) :: .ptr 2 [] :: us 31, [.dat Qeg, .dat Qef, .dat (.arr 64 (.int .u8))]⟩⟩]
abbrev Q6.l0.σ : Type := ByteArray × Int × (List Int) × (List Int) × Unit
abbrev Q6.l0.τ : Type := ((List Int) × (List Int) × Unit)
def Q6.l0.r (k : Nat) {ρ : Type} (x : Q6.l0.σ) (kn : Q6.l0.σ → Option ρ) (ke : Q6.l0.τ → Option ρ) : Option ρ :=
 let v3 : Int := (((ByteArray.size x.1) : Nat) : Int)
 bif (decide (x.2.1 < v3)) then (let v4 : (List Int) := (List.replicate 64 (0 : Int))
 (Q6.l1 k k (x.1, (x.2.1, ((0 : Int), (x.2.2.1, (x.2.2.2.1, (v4, ()))))))).bind fun t8 => let v9 : (List Int) := t8.2.2.2.1
 let v10 : (List Int) := t8.2.2.2.2.1
 (Q0 k v9 v10).bind fun t11 => let v12 : Int := (IntKind.wrap IntKind.i64 (t8.2.1 + (64 : Int)))
 kn (t8.1, (v12, (t8.2.2.1, (t11.1, ()))))) else (ke (x.2.2.1, (x.2.2.2.1, ())))
def Q6.l0 (k : Nat) : Nat → Q6.l0.σ → Option Q6.l0.τ := Q1j (Q6.l0.r k)
def Q6.l0.T : StT := ⟨.dat .str :: us 1 ++ .ptr 0 [] :: .ptr 1 [] :: .dat (.int .i64) :: us 32, [.dat Qeg, .dat Qef]⟩
def Q6.l0.os : List Out := [⟨(.exit 0), [.mask [2, 3], .auto 0], ⟨us 2 ++ .ptr 0 [] :: .ptr 1 [] :: us 33, [.dat Qeg, .dat Qef]⟩⟩]
def Q6.c (k : Nat) {ρ : Type} (s : ByteArray) (K : (List Int) × Unit → Option ρ) : Option ρ :=
 (Q7 k (IntKind.wrap IntKind.u64 (((ByteArray.size s) : Nat) : Int))).bind fun t0 => bif (Nat.ble ((ByteArray.size s) + (ByteArray.size t0.1)) 9223372036854775807) then (let v1 : ByteArray := (s ++ t0.1)
 (Q0q k ).bind fun t2 => (Q6.l0 k k (v1, ((0 : Int), ((List.replicate 32 (0 : Int)), (t2.1, ()))))).bind fun t13 => let v14 : (List Int) := t13.2.1
 (Q2 k v14).bind fun t15 => K (t15.1, ())) else (none)
def Q6 (k : Nat) (s : ByteArray) : Option Qeh := Q6.c k s some
def Q6.tin : List Ty := [.str]
def Q6.tout : List Ty := [Qeg]
def Q6.sem (k : Nat) : QP := Q15 Q6.tin Q6.tout fun x => Q6 k x.1
noncomputable def Q6.ctx (k : Nat) : Ctx := ⟨Try.prog, gam [(94, (Q7.sem k)), (95, (Q0q.sem k)), (96, (Q0.sem k)), (97, (Q2.sem k))]⟩
theorem Q6.gok (k : Nat) : ∀ f, Qw Try.prog f ((Q6.ctx k).Γ f) := (Qe (Q7.sem_ok k) (Qe (Q0q.sem_ok k) (Qe (Q0.sem_ok k) (Qe (Q2.sem_ok k) Q0b))))
theorem Q6.l1.round (k : Nat) : Q1e (Q6.ctx k) (Q0K (Func.code Try.f85) [1, 1, 1, 0, 1, 0, 0, 1, 0, 0, 1, 0, 1, 0, 0]) (.nil) Q6.l1.T [.mask [0, 2, 3, 4, 5, 6], .auto 0] Q6.l1.os (Q6.l1.r k) := by
 intro ρ x kn ke; kernel_rfl
theorem Q6.l1.ok (k : Nat) : StOK 0 Try.prog (.loop (Q0K (Func.code Try.f85) [1, 1, 1, 0, 1, 0, 0, 1, 0, 0, 1, 0, 1, 0, 0])) (Q01 Q6.l1.T Q6.l1.os (Q6.l1 k k)) :=
 Q1i (C := Q6.ctx k) (Q6.gok k) Try.mix Q1.nil (by kernel_rfl) (by kernel_rfl) (by kernel_rfl) (Q6.l1.round k) k
theorem Q6.l0.round (k : Nat) : Q1e (Q6.ctx k) (Q0K (Func.code Try.f85) [1, 1, 1, 0, 1, 0, 0]) (.node [] none (.nil) (.node [] none (.node [] none (.node [] none (.nil) (.node [] none (.node [] none (.nil) (.node [] none (.node [.mask [0, 2, 3, 4, 5, 6], .auto 0] (some (Q01 Q6.l1.T Q6.l1.os (Q6.l1 k k))) .nil .nil) (.nil))) (.nil))) (.nil)) (.nil))) Q6.l0.T [.mask [0, 2, 3, 4], .auto 0] Q6.l0.os (Q6.l0.r k) := by
 intro ρ x kn ke; kernel_rfl
theorem Q6.l0.ok (k : Nat) : StOK 0 Try.prog (.loop (Q0K (Func.code Try.f85) [1, 1, 1, 0, 1, 0, 0])) (Q01 Q6.l0.T Q6.l0.os (Q6.l0 k k)) :=
 Q1i (C := Q6.ctx k) (Q6.gok k) Try.mix (Q1.seq Q1.nil (Q1.seq (Q1.block (Q1.seq Q1.nil (Q1.seq (Q1.seq Q1.nil (Q1.block (Q1.loop (by kernel_rfl) (Q6.l1.ok k)))) Q1.nil))) Q1.nil)) (by kernel_rfl) (by kernel_rfl) (by kernel_rfl) (Q6.l0.round k) k
def Q6.ann (k : Nat) : Ann := .node [] none (.nil) (.node [] none (.nil) (.node [] none (.nil) (.node [] none (.node [] none (.nil) (.node [] none (.node [.mask [0, 2, 3, 4], .auto 0] (some (Q01 Q6.l0.T Q6.l0.os (Q6.l0 k k))) .nil .nil) (.nil))) (.nil))))
theorem Q6.body (k : Nat) : Q1n (Q6.ctx k) Try.f85 (Func.code Try.f85) (Q6.ann k) Q6.tin Q6.tout (fun x K => Q6.c k x.1 K) := by
 intro ρ x K; kernel_rfl
theorem Q6.sem_ok (k : Nat) : Qw Try.prog 85 (Q6.sem k) :=
 Q11 (C := Q6.ctx k) (Q6.gok k) Try.mix (c := Func.code Try.f85) (ann := Q6.ann k) (tin := Q6.tin) (tout := Q6.tout) (fun x K => Q6.c k x.1 K) Try.func85 (by kernel_rfl) (by kernel_rfl) (Q1.seq Q1.nil (Q1.seq Q1.nil (Q1.seq Q1.nil (Q1.seq (Q1.seq Q1.nil (Q1.block (Q1.loop (by kernel_rfl) (Q6.l0.ok k)))) Q1.nil)))) (Q6.body k)
def Q0f.c (k : Nat) {ρ : Type} (s : ByteArray) (K : (List Int) × Unit → Option ρ) : Option ρ :=
 (Q6 k s).bind fun t0 => let v1 : ByteArray := (bytesOf (List.take 32 (List.drop 0 t0.1)))
 (Q6 k v1).bind fun t2 => K (t2.1, ())
def Q0f (k : Nat) (s : ByteArray) : Option Qeh := Q0f.c k s some
def Q0f.tin : List Ty := [.str]
def Q0f.tout : List Ty := [Qeg]
def Q0f.sem (k : Nat) : QP := Q15 Q0f.tin Q0f.tout fun x => Q0f k x.1
noncomputable def Q0f.ctx (k : Nat) : Ctx := ⟨Try.prog, gam [(85, (Q6.sem k))]⟩
theorem Q0f.gok (k : Nat) : ∀ f, Qw Try.prog f ((Q0f.ctx k).Γ f) := (Qe (Q6.sem_ok k) Q0b)
def Q0f.ann (k : Nat) : Ann := .nil
theorem Q0f.body (k : Nat) : Q1n (Q0f.ctx k) Try.f69 (Func.code Try.f69) (Q0f.ann k) Q0f.tin Q0f.tout (fun x K => Q0f.c k x.1 K) := by
 intro ρ x K; kernel_rfl
theorem Q0f.sem_ok (k : Nat) : Qw Try.prog 69 (Q0f.sem k) :=
 Q11 (C := Q0f.ctx k) (Q0f.gok k) Try.mix (c := Func.code Try.f69) (ann := Q0f.ann k) (tin := Q0f.tin) (tout := Q0f.tout) (fun x K => Q0f.c k x.1 K) Try.func69 (by kernel_rfl) (by kernel_rfl) Q1.nil (Q0f.body k)
def Q0e.c (k : Nat) {ρ : Type} (s : ByteArray) (K : ByteArray × Unit → Option ρ) : Option ρ :=
 (Q0f k s).bind fun t0 => let v1 : ByteArray := (bytesOf (List.take 4 (List.drop 0 t0.1)))
 K (v1, ())
def Q0e (k : Nat) (s : ByteArray) : Option (ByteArray × Unit) := Q0e.c k s some
def Q0e.tin : List Ty := [.str]
def Q0e.tout : List Ty := [.str]
def Q0e.sem (k : Nat) : QP := Q15 Q0e.tin Q0e.tout fun x => Q0e k x.1
noncomputable def Q0e.ctx (k : Nat) : Ctx := ⟨Try.prog, gam [(69, (Q0f.sem k))]⟩
theorem Q0e.gok (k : Nat) : ∀ f, Qw Try.prog f ((Q0e.ctx k).Γ f) := (Qe (Q0f.sem_ok k) Q0b)
def Q0e.ann (k : Nat) : Ann := .nil
theorem Q0e.body (k : Nat) : Q1n (Q0e.ctx k) Try.f42 (Func.code Try.f42) (Q0e.ann k) Q0e.tin Q0e.tout (fun x K => Q0e.c k x.1 K) := by
 intro ρ x K; kernel_rfl
theorem Q0e.sem_ok (k : Nat) : Qw Try.prog 42 (Q0e.sem k) :=
 Q11 (C := Q0e.ctx k) (Q0e.gok k) Try.mix (c := Func.code Try.f42) (ann := Q0e.ann k) (tin := Q0e.tin) (tout := Q0e.tout) (fun x K => Q0e.c k x.1 K) Try.func42 (by kernel_rfl) (by kernel_rfl) Q1.nil (Q0e.body k)
def Q0d.c (k : Nat) {ρ : Type} (epoch : Int) (K : ByteArray × Unit → Option ρ) : Option ρ :=
 (Qf k epoch (8 : Int)).bind fun t0 => bif (Nat.ble (8 + (ByteArray.size t0.1)) 9223372036854775807) then (let v1 : ByteArray := ((⟨(List.toArray [98, 101, 100, 114, 111, 99, 107, 106])⟩ : ByteArray) ++ t0.1)
 (Q0e k v1).bind fun t2 => bif (Nat.ble ((ByteArray.size v1) + (ByteArray.size t2.1)) 9223372036854775807) then (let v3 : ByteArray := (v1 ++ t2.1)
 K (v3, ())) else (none)) else (none)
def Q0d (k : Nat) (epoch : Int) : Option (ByteArray × Unit) := Q0d.c k epoch some
def Q0d.tin : List Ty := [(.int .u64)]
def Q0d.tout : List Ty := [.str]
def Q0d.sem (k : Nat) : QP := Q15 Q0d.tin Q0d.tout fun x => Q0d k x.1
noncomputable def Q0d.ctx (k : Nat) : Ctx := ⟨Try.prog, gam [(41, (Qf.sem k)), (42, (Q0e.sem k))]⟩
theorem Q0d.gok (k : Nat) : ∀ f, Qw Try.prog f ((Q0d.ctx k).Γ f) := (Qe (Qf.sem_ok k) (Qe (Q0e.sem_ok k) Q0b))
def Q0d.ann (k : Nat) : Ann := .nil
theorem Q0d.body (k : Nat) : Q1n (Q0d.ctx k) Try.f10 (Func.code Try.f10) (Q0d.ann k) Q0d.tin Q0d.tout (fun x K => Q0d.c k x.1 K) := by
 intro ρ x K; kernel_rfl
theorem Q0d.sem_ok (k : Nat) : Qw Try.prog 10 (Q0d.sem k) :=
 Q11 (C := Q0d.ctx k) (Q0d.gok k) Try.mix (c := Func.code Try.f10) (ann := Q0d.ann k) (tin := Q0d.tin) (tout := Q0d.tout) (fun x K => Q0d.c k x.1 K) Try.func10 (by kernel_rfl) (by kernel_rfl) Q1.nil (Q0d.body k)
end Go.Am
namespace Go.Am
open Go Go.Proofs
set_option maxRecDepth 100000
def QZ.c (k : Nat) {ρ : Type} (epoch : Int) (number : Int) (s : ByteArray) (K : ByteArray × Unit → Option ρ) : Option ρ :=
 (Qf k (IntKind.wrap IntKind.u64 (((ByteArray.size s) : Nat) : Int)) (4 : Int)).bind fun t0 => (Qf k number (8 : Int)).bind fun t1 => bif (Nat.ble ((ByteArray.size t0.1) + (ByteArray.size t1.1)) 9223372036854775807) then (let v2 : ByteArray := (t0.1 ++ t1.1)
 bif (Nat.ble ((ByteArray.size v2) + (ByteArray.size s)) 9223372036854775807) then (let v3 : ByteArray := (v2 ++ s)
 (Qf k epoch (8 : Int)).bind fun t4 => bif (Nat.ble ((ByteArray.size t4.1) + (ByteArray.size v3)) 9223372036854775807) then (let v5 : ByteArray := (t4.1 ++ v3)
 (Q0e k v5).bind fun t6 => bif (Nat.ble ((ByteArray.size v3) + (ByteArray.size t6.1)) 9223372036854775807) then (let v7 : ByteArray := (v3 ++ t6.1)
 K (v7, ())) else (none)) else (none)) else (none)) else (none)
def QZ (k : Nat) (epoch : Int) (number : Int) (s : ByteArray) : Option (ByteArray × Unit) := QZ.c k epoch number s some
def QZ.tin : List Ty := [(.int .u64), (.int .u64), .str]
def QZ.tout : List Ty := [.str]
def QZ.sem (k : Nat) : QP := Q15 QZ.tin QZ.tout fun x => QZ k x.1 x.2.1 x.2.2.1
noncomputable def QZ.ctx (k : Nat) : Ctx := ⟨Try.prog, gam [(41, (Qf.sem k)), (42, (Q0e.sem k))]⟩
theorem QZ.gok (k : Nat) : ∀ f, Qw Try.prog f ((QZ.ctx k).Γ f) := (Qe (Qf.sem_ok k) (Qe (Q0e.sem_ok k) Q0b))
def QZ.ann (k : Nat) : Ann := .nil
theorem QZ.body (k : Nat) : Q1n (QZ.ctx k) Try.f11 (Func.code Try.f11) (QZ.ann k) QZ.tin QZ.tout (fun x K => QZ.c k x.1 x.2.1 x.2.2.1 K) := by
 intro ρ x K; kernel_rfl
theorem QZ.sem_ok (k : Nat) : Qw Try.prog 11 (QZ.sem k) :=
 Q11 (C := QZ.ctx k) (QZ.gok k) Try.mix (c := Func.code Try.f11) (ann := QZ.ann k) (tin := QZ.tin) (tout := QZ.tout) (fun x K => QZ.c k x.1 x.2.1 x.2.2.1 K) Try.func11 (by kernel_rfl) (by kernel_rfl) Q1.nil (QZ.body k)
end Go.Am
namespace Go.Am
open Go Go.Proofs
set_option maxRecDepth 100000
abbrev Ql.l0.σ : Type := ByteArray × Int × Int × Unit
abbrev Ql.l0.τ : Type := (Int × Unit)
def Ql.l0.r (k : Nat) {ρ : Type} (x : Ql.l0.σ) (kn : Ql.l0.σ → Option ρ) (ke : Ql.l0.τ → Option ρ) : Option ρ :=
 bif (decide (x.2.2.1 ≥ (0 : Int))) then (let v1 : Int := (IntKind.wrap IntKind.u64 ((256 : Int) * x.2.1))
 bif (decide (((0 : Int) ≤ x.2.2.1) ∧ (x.2.2.1 < (((ByteArray.size x.1) : Nat) : Int)))) then (let v2 : Int := (Q2S x.1 (Int.toNat x.2.2.1))
 let v3 : Int := (IntKind.wrap IntKind.u64 (v1 + (IntKind.wrap IntKind.u64 v2)))
 let v4 : Int := (IntKind.wrap IntKind.i64 (x.2.2.1 - (1 : Int)))
 kn (x.1, (v3, (v4, ())))) else (none)) else (ke (x.2.1, ()))
def Ql.l0 (k : Nat) : Nat → Ql.l0.σ → Option Ql.l0.τ := Q1j (Ql.l0.r k)
def Ql.l0.T : StT := ⟨.dat .str :: us 2 ++ .dat (.int .u64) :: .dat (.int .i64) :: us 15, []⟩
def Ql.l0.os : List Out := [⟨(.exit 0), [.mask [3], .auto 0], ⟨us 3 ++ .dat (.int .u64) :: us 16, []⟩⟩]
def Ql.c (k : Nat) {ρ : Type} (s : ByteArray) (K : Int × Unit → Option ρ) : Option ρ :=
 let v0 : Int := (IntKind.wrap IntKind.i64 ((((ByteArray.size s) : Nat) : Int) - (1 : Int)))
 (Ql.l0 k k (s, ((0 : Int), (v0, ())))).bind fun t5 => K (t5.1, ())
def Ql (k : Nat) (s : ByteArray) : Option (Int × Unit) := Ql.c k s some
def Ql.tin : List Ty := [.str]
def Ql.tout : List Ty := [(.int .u64)]
def Ql.sem (k : Nat) : QP := Q15 Ql.tin Ql.tout fun x => Ql k x.1
noncomputable def Ql.ctx (k : Nat) : Ctx := ⟨Try.prog, gam []⟩
theorem Ql.gok (k : Nat) : ∀ f, Qw Try.prog f ((Ql.ctx k).Γ f) := Q0b
theorem Ql.l0.round (k : Nat) : Q1e (Ql.ctx k) (Q0K (Func.code Try.f49) [1, 1, 0, 1, 0, 0]) (.nil) Ql.l0.T [.mask [0, 3, 4], .auto 0] Ql.l0.os (Ql.l0.r k) := by
 intro ρ x kn ke; kernel_rfl
theorem Ql.l0.ok (k : Nat) : StOK 0 Try.prog (.loop (Q0K (Func.code Try.f49) [1, 1, 0, 1, 0, 0])) (Q01 Ql.l0.T Ql.l0.os (Ql.l0 k k)) :=
 Q1i (C := Ql.ctx k) (Ql.gok k) Try.mix Q1.nil (by kernel_rfl) (by kernel_rfl) (by kernel_rfl) (Ql.l0.round k) k
def Ql.ann (k : Nat) : Ann := .node [] none (.nil) (.node [] none (.nil) (.node [] none (.node [] none (.nil) (.node [] none (.node [] (some (Q01 Ql.l0.T Ql.l0.os (Ql.l0 k k))) .nil .nil) (.nil))) (.nil)))
theorem Ql.body (k : Nat) : Q1n (Ql.ctx k) Try.f49 (Func.code Try.f49) (Ql.ann k) Ql.tin Ql.tout (fun x K => Ql.c k x.1 K) := by
 intro ρ x K; kernel_rfl
theorem Ql.sem_ok (k : Nat) : Qw Try.prog 49 (Ql.sem k) :=
 Q11 (C := Ql.ctx k) (Ql.gok k) Try.mix (c := Func.code Try.f49) (ann := Ql.ann k) (tin := Ql.tin) (tout := Ql.tout) (fun x K => Ql.c k x.1 K) Try.func49 (by kernel_rfl) (by kernel_rfl) (Q1.seq Q1.nil (Q1.seq Q1.nil (Q1.seq (Q1.seq Q1.nil (Q1.block (Q1.loop (by kernel_rfl) (Ql.l0.ok k)))) Q1.nil))) (Ql.body k)
abbrev Q8.p1.σ : Type := ByteArray × Int × Int × Int × (List ByteArray) × Unit
abbrev Q8.p1.τ : Type := (ByteArray × Int × Int × (List ByteArray) × Unit) ⊕ (ByteArray × Int × Int × Int × (List ByteArray) × Unit)
def Q8.p1.r (k : Nat) {ρ : Type} (x : Q8.p1.σ) (K : Q8.p1.τ → Option ρ) : Option ρ :=
 bif (decide (x.2.2.2.1 > (65536 : Int))) then (K (.inl (x.1, (x.2.1, (x.2.2.1, (x.2.2.2.2.1, ())))))) else (let v7 : Int := (((ByteArray.size x.1) : Nat) : Int)
 let v8 : Int := (IntKind.wrap IntKind.i64 (v7 - x.2.2.1))
 let v9 : Int := (IntKind.wrap IntKind.i64 (v8 - (16 : Int)))
 bif (decide ((IntKind.wrap IntKind.u64 v9) < x.2.2.2.1)) then (K (.inl (x.1, (x.2.1, (x.2.2.1, (x.2.2.2.2.1, ())))))) else (K (.inr (x.1, (x.2.1, (x.2.2.1, (x.2.2.2.1, (x.2.2.2.2.1, ()))))))))
def Q8.p1 (k : Nat) (x : Q8.p1.σ) : Option Q8.p1.τ := Q8.p1.r k x some
def Q8.p1.T : StT := ⟨.dat .str :: us 5 ++ .dat (.int .u64) :: .vsl 0 :: .dat (.int .i64) :: .dat (.int .u64) :: us 75, [.vec .str]⟩
def Q8.p1.os : List Out := [⟨(.exit 0), [.mask [0, 6, 7, 8], .auto 0], ⟨.dat .str :: us 5 ++ .dat (.int .u64) :: .vsl 0 :: .dat (.int .i64) :: us 76, [.vec .str]⟩⟩, ⟨.normal, [.mask [0, 6, 7, 8, 9], .auto 0], ⟨.dat .str :: us 5 ++ .dat (.int .u64) :: .vsl 0 :: .dat (.int .i64) :: .dat (.int .u64) :: us 75, [.vec .str]⟩⟩]
abbrev Q8.l0.σ : Type := ByteArray × Int × Int × (List ByteArray) × Unit
abbrev Q8.l0.τ : Type := (ByteArray × Int × Int × (List ByteArray) × Unit)
def Q8.l0.r (k : Nat) {ρ : Type} (x : Q8.l0.σ) (kn : Q8.l0.σ → Option ρ) (ke : Q8.l0.τ → Option ρ) : Option ρ :=
  let v2 : Int := (((ByteArray.size x.1) : Nat) : Int)
  let v3 : Int := (IntKind.wrap IntKind.i64 (v2 - x.2.2.1))
  bif (decide (v3 ≥ (16 : Int))) then (let v4 : Int := (IntKind.wrap IntKind.i64 (x.2.2.1 + (4 : Int)))
  bif (decide (((0 : Int) ≤ x.2.2.1) ∧ ((x.2.2.1 ≤ v4) ∧ (v4 ≤ (((ByteArray.size x.1) : Nat) : Int))))) then (let v5 : ByteArray := (ByteArray.extract x.1 (Int.toNat x.2.2.1) (Int.toNat v4))
  (Ql k v5).bind fun t6 => (Q8.p1 k (x.1, (x.2.1, (x.2.2.1, (t6.1, (x.2.2.2.1, ())))))).bind fun t10 => (match t10 with
 | .inl t11 => (ke (t11.1, (t11.2.1, (t11.2.2.1, (t11.2.2.2.1, ())))))
 | .inr (t12) => (let v13 : Int := (IntKind.wrap IntKind.i64 (t12.2.2.1 + (12 : Int)))
  let v14 : Int := (IntKind.wrap IntKind.i64 (t12.2.2.1 + (12 : Int)))
  let v15 : Int := (IntKind.wrap IntKind.i64 t12.2.2.2.1)
  let v16 : Int := (IntKind.wrap IntKind.i64 (v14 + v15))
  bif (decide (((0 : Int) ≤ v13) ∧ ((v13 ≤ v16) ∧ (v16 ≤ (((ByteArray.size t12.1) : Nat) : Int))))) then (let v17 : ByteArray := (ByteArray.extract t12.1 (Int.toNat v13) (Int.toNat v16))
  let v18 : Int := (IntKind.wrap IntKind.i64 (t12.2.2.1 + (16 : Int)))
  let v19 : Int := (IntKind.wrap IntKind.i64 t12.2.2.2.1)
  let v20 : Int := (IntKind.wrap IntKind.i64 (v18 + v19))
  bif (decide (((0 : Int) ≤ t12.2.2.1) ∧ ((t12.2.2.1 ≤ v20) ∧ (v20 ≤ (((ByteArray.size t12.1) : Nat) : Int))))) then (let v21 : ByteArray := (ByteArray.extract t12.1 (Int.toNat t12.2.2.1) (Int.toNat v20))
  let v22 : Int := (((List.length t12.2.2.2.2.1) : Nat) : Int)
  (QZ k t12.2.1 (IntKind.wrap IntKind.u64 v22) v17).bind fun t23 => bif (!(Q1J v21 t23.1)) then (ke (t12.1, (t12.2.1, (t12.2.2.1, (t12.2.2.2.2.1, ()))))) else (bif (Nat.ble (((List.length t12.2.2.2.2.1) + (List.length (List.set (List.replicate 1 ByteArray.empty) 0 v17))) * 16) 140737488355328) then (let v24 : Int := (IntKind.wrap IntKind.i64 t12.2.2.2.1)
  let v25 : Int := (IntKind.wrap IntKind.i64 ((16 : Int) + v24))
  let v26 : Int := (IntKind.wrap IntKind.i64 (t12.2.2.1 + v25))
  kn (t12.1, (t12.2.1, (v26, ((t12.2.2.2.2.1 ++ (List.set (List.replicate 1 ByteArray.empty) 0 v17)), ()))))) else (none))) else (none)) else (none)))) else (none)) else (ke (x.1, (x.2.1, (x.2.2.1, (x.2.2.2.1, ())))))
def Q8.l0 (k : Nat) : Nat → Q8.l0.σ → Option Q8.l0.τ := Q1j (Q8.l0.r k)
def Q8.l0.T : StT := ⟨.dat .str :: us 5 ++ .dat (.int .u64) :: .vsl 0 :: .dat (.int .i64) :: us 76, [.vec .str]⟩
def Q8.l0.os : List Out := [⟨(.exit 0), [.mask [0, 6, 7, 8], .auto 0], ⟨.dat .str :: us 5 ++ .dat (.int .u64) :: .vsl 0 :: .dat (.int .i64) :: us 76, [.vec .str]⟩⟩]
def Q8.c (k : Nat) {ρ : Type} (s : ByteArray) (K : Int × (List ByteArray) × Int × Bool × Unit → Option ρ) : Option ρ :=
 bif (decide ((((ByteArray.size s) : Nat) : Int) < (20 : Int))) then (K ((0 : Int), ([], ((0 : Int), (false, ()))))) else (bif (decide (((0 : Int) ≤ (8 : Int)) ∧ (((8 : Int) ≤ (16 : Int)) ∧ ((16 : Int) ≤ (((ByteArray.size s) : Nat) : Int))))) then ((Ql k (ByteArray.extract s 8 16)).bind fun t0 => bif (decide (((0 : Int) ≤ (0 : Int)) ∧ (((0 : Int) ≤ (20 : Int)) ∧ ((20 : Int) ≤ (((ByteArray.size s) : Nat) : Int))))) then ((Q0d k t0.1).bind fun t1 => bif (!(Q1J (ByteArray.extract s 0 20) t1.1)) then (K ((0 : Int), ([], ((0 : Int), (false, ()))))) else ((Q8.l0 k k (s, (t0.1, ((20 : Int), ((List.replicate 0 ByteArray.empty), ()))))).bind fun t27 => let v28 : Int := (((ByteArray.size t27.1) : Nat) : Int)
 let v29 : Int := (IntKind.wrap IntKind.i64 (v28 - t27.2.2.1))
 K (t27.2.1, (t27.2.2.2.1, (v29, (true, ())))))) else (none)) else (none))
def Q8 (k : Nat) (s : ByteArray) : Option (Int × (List ByteArray) × Int × Bool × Unit) := Q8.c k s some
def Q8.tin : List Ty := [.str]
def Q8.tout : List Ty := [(.int .u64), (.sl .str), (.int .i64), .bool]
def Q8.sem (k : Nat) : QP := Q15 Q8.tin Q8.tout fun x => Q8 k x.1
noncomputable def Q8.ctx (k : Nat) : Ctx := ⟨Try.prog, gam [(49, (Ql.sem k)), (10, (Q0d.sem k)), (11, (QZ.sem k))]⟩
theorem Q8.gok (k : Nat) : ∀ f, Qw Try.prog f ((Q8.ctx k).Γ f) := (Qe (Ql.sem_ok k) (Qe (Q0d.sem_ok k) (Qe (QZ.sem_ok k) Q0b)))
theorem Q8.p1.is (k : Nat) : Q20 (Q8.ctx k) (Q0K (Func.code Try.f13) [1, 1, 1, 1, 1, 1, 0, 0, 0, 1, 0, 1, 0]) (.nil) Q8.p1.T Q8.p1.os (Q8.p1.r k) := by
 intro ρ x K; kernel_rfl
theorem Q8.p1.ok (k : Nat) : StOK 0 Try.prog (Q0K (Func.code Try.f13) [1, 1, 1, 1, 1, 1, 0, 0, 0, 1, 0, 1, 0]) (Q01 Q8.p1.T Q8.p1.os (Q8.p1 k)) :=
 Q1O (C := Q8.ctx k) (T := Q8.p1.T) (os := Q8.p1.os) (Q8.gok k) Try.mix (fun x K => Q8.p1.r k x K) Q1.nil (by kernel_rfl) (by kernel_rfl) (Q8.p1.is k)
theorem Q8.l0.round (k : Nat) : Q1e (Q8.ctx k) (Q0K (Func.code Try.f13) [1, 1, 1, 1, 1, 1, 0, 0, 0]) (.node [] none (.nil) (.node [] none (.node [] none (.nil) (.node [] none (.node [.mask [0, 6, 7, 8, 9], .auto 0] (some (Q01 Q8.p1.T Q8.p1.os (Q8.p1 k))) .nil .nil) (.nil))) (.nil))) Q8.l0.T [.mask [0, 6, 7, 8], .auto 0] Q8.l0.os (Q8.l0.r k) := by
 intro ρ x kn ke; kernel_rfl
theorem Q8.l0.ok (k : Nat) : StOK 0 Try.prog (.loop (Q0K (Func.code Try.f13) [1, 1, 1, 1, 1, 1, 0, 0, 0])) (Q01 Q8.l0.T Q8.l0.os (Q8.l0 k k)) :=
 Q1i (C := Q8.ctx k) (Q8.gok k) Try.mix (Q1.seq Q1.nil (Q1.block (Q1.seq Q1.nil (Q1.seq (Q1.loop (by kernel_rfl) (Q8.p1.ok k)) Q1.nil)))) (by kernel_rfl) (by kernel_rfl) (by kernel_rfl) (Q8.l0.round k) k
def Q8.ann (k : Nat) : Ann := .node [] none (.nil) (.node [] none (.nil) (.node [] none (.nil) (.node [] none (.nil) (.node [] none (.nil) (.node [] none (.nil) (.node [] none (.node [] none (.node [.mask [0, 6, 7, 8], .auto 0] (some (Q01 Q8.l0.T Q8.l0.os (Q8.l0 k k))) .nil .nil) (.nil)) (.nil)))))))
theorem Q8.body (k : Nat) : Q1n (Q8.ctx k) Try.f13 (Func.code Try.f13) (Q8.ann k) Q8.tin Q8.tout (fun x K => Q8.c k x.1 K) := by
 intro ρ x K; kernel_rfl
theorem Q8.sem_ok (k : Nat) : Qw Try.prog 13 (Q8.sem k) :=
 Q11 (C := Q8.ctx k) (Q8.gok k) Try.mix (c := Func.code Try.f13) (ann := Q8.ann k) (tin := Q8.tin) (tout := Q8.tout) (fun x K => Q8.c k x.1 K) Try.func13 (by kernel_rfl) (by kernel_rfl) (Q1.seq Q1.nil (Q1.seq Q1.nil (Q1.seq Q1.nil (Q1.seq Q1.nil (Q1.seq Q1.nil (Q1.seq Q1.nil (Q1.seq (Q1.block (Q1.loop (by kernel_rfl) (Q8.l0.ok k))) Q1.nil))))))) (Q8.body k)
end Go.Am
namespace Go.Am
open Go Go.Proofs
set_option maxRecDepth 100000
abbrev Qp.l0.σ : Type := (List ByteArray) × (List ByteArray) × Int × Int × Unit
abbrev Qp.l0.τ : Type := (Bool × Unit) ⊕ (Unit)
def Qp.l0.r (k : Nat) {ρ : Type} (x : Qp.l0.σ) (kn : Qp.l0.σ → Option ρ) (ke : Qp.l0.τ → Option ρ) : Option ρ :=
 bif (decide (x.2.2.2.1 < x.2.2.1)) then (bif (decide (((0 : Int) ≤ x.2.2.2.1) ∧ (x.2.2.2.1 < (((List.length x.1) : Nat) : Int)))) then (let v0 : ByteArray := (List.getD x.1 (Int.toNat x.2.2.2.1) ByteArray.empty)
 bif (decide (((0 : Int) ≤ x.2.2.2.1) ∧ (x.2.2.2.1 < (((List.length x.2.1) : Nat) : Int)))) then (let v1 : ByteArray := (List.getD x.2.1 (Int.toNat x.2.2.2.1) ByteArray.empty)
 bif (!(Q1J v0 v1)) then (ke (.inl (false, ()))) else (let v2 : Int := (IntKind.wrap IntKind.i64 (x.2.2.2.1 + (1 : Int)))
 kn (x.1, (x.2.1, (x.2.2.1, (v2, ())))))) else (none)) else (none)) else (ke (.inr ()))
def Qp.l0 (k : Nat) : Nat → Qp.l0.σ → Option Qp.l0.τ := Q1j (Qp.l0.r k)
def Qp.l0.T : StT := ⟨.dat (.sl .str) :: .dat (.sl .str) :: us 10 ++ .dat (.int .i64) :: .dat (.int .i64) :: us 12, []⟩
def Qp.l0.os : List Out := [⟨.ret, [.mask [4], .auto 0], ⟨us 4 ++ .dat .bool :: us 21, []⟩⟩, ⟨(.exit 0), [.mask [], .auto 0], ⟨us 26, []⟩⟩]
def Qp.c (k : Nat) {ρ : Type} (a : (List ByteArray)) (b : (List ByteArray)) (K : Bool × Unit → Option ρ) : Option ρ :=
  bif ((((List.length a) : Nat) : Int) != (((List.length b) : Nat) : Int)) then (K (false, ())) else ((Qp.l0 k k (a, (b, ((((List.length a) : Nat) : Int), ((0 : Int), ()))))).bind fun t3 => (match t3 with
 | .inl t4 => (K (t4.1, ()))
 | .inr (t5) => (K (true, ()))))
def Qp (k : Nat) (a : (List ByteArray)) (b : (List ByteArray)) : Option (Bool × Unit) := Qp.c k a b some
def Qp.tin : List Ty := [(.sl .str), (.sl .str)]
def Qp.tout : List Ty := [.bool]
def Qp.sem (k : Nat) : QP := Q15 Qp.tin Qp.tout fun x => Qp k x.1 x.2.1
noncomputable def Qp.ctx (k : Nat) : Ctx := ⟨Try.prog, gam []⟩
theorem Qp.gok (k : Nat) : ∀ f, Qw Try.prog f ((Qp.ctx k).Γ f) := Q0b
theorem Qp.l0.round (k : Nat) : Q1e (Qp.ctx k) (Q0K (Func.code Try.f14) [1, 1, 0, 1, 0, 0]) (.nil) Qp.l0.T [.mask [0, 1, 12, 13], .auto 0] Qp.l0.os (Qp.l0.r k) := by
 intro ρ x kn ke; kernel_rfl
theorem Qp.l0.ok (k : Nat) : StOK 0 Try.prog (.loop (Q0K (Func.code Try.f14) [1, 1, 0, 1, 0, 0])) (Q01 Qp.l0.T Qp.l0.os (Qp.l0 k k)) :=
 Q1i (C := Qp.ctx k) (Qp.gok k) Try.mix Q1.nil (by kernel_rfl) (by kernel_rfl) (by kernel_rfl) (Qp.l0.round k) k
def Qp.ann (k : Nat) : Ann := .node [] none (.nil) (.node [] none (.nil) (.node [] none (.node [] none (.nil) (.node [] none (.node [] (some (Q01 Qp.l0.T Qp.l0.os (Qp.l0 k k))) .nil .nil) (.nil))) (.nil)))
theorem Qp.body (k : Nat) : Q1n (Qp.ctx k) Try.f14 (Func.code Try.f14) (Qp.ann k) Qp.tin Qp.tout (fun x K => Qp.c k x.1 x.2.1 K) := by
 intro ρ x K; kernel_rfl
theorem Qp.sem_ok (k : Nat) : Qw Try.prog 14 (Qp.sem k) :=
 Q11 (C := Qp.ctx k) (Qp.gok k) Try.mix (c := Func.code Try.f14) (ann := Qp.ann k) (tin := Qp.tin) (tout := Qp.tout) (fun x K => Qp.c k x.1 x.2.1 K) Try.func14 (by kernel_rfl) (by kernel_rfl) (Q1.seq Q1.nil (Q1.seq Q1.nil (Q1.seq (Q1.seq Q1.nil (Q1.block (Q1.loop (by kernel_rfl) (Qp.l0.ok k)))) Q1.nil))) (Qp.body k)
end Go.Am
namespace Go.Am
open Go
theorem Q7w {σ τ : Type} {r : {ρ : Type} → σ → (σ → Option ρ) → (τ → Option ρ) → Option ρ} (S : Nat → σ) (n : Nat) (T : τ) (a : Nat)
  (hstep : ∀ i, a ≤ i → i < n → ∀ (kn : σ → Option τ) (ke : τ → Option τ), r (S i) kn ke = kn (S (i + 1))) (hend : ∀ (kn : σ → Option τ) (ke : τ → Option τ), r (S n) kn ke = ke T) :
  ∀ {fuel : Nat}, a ≤ n → n - a < fuel → Q1j r fuel (S a) = some T := by
 intro fuel ha hf
 have key : ∀ (d i fuel : Nat), a ≤ i → i + d = n → d < fuel → Q1j r fuel (S i) = some T := by
  intro d
  induction d with
  | zero =>
   intro i fuel _ hi hf
   cases fuel with
   | zero => omega
   | succ fuel =>
    have : i = n := by omega
    subst this
    exact hend _ _
  | succ d ih =>
   intro i fuel hai hi hf
   cases fuel with
   | zero => omega
   | succ fuel =>
    show r (S i) (Q1j r fuel) some = _
    rw [hstep i hai (by omega)]
    exact ih (i + 1) fuel (by omega) (by omega) (by omega)
 exact key (n - a) a fuel (Nat.le_refl _) (by omega) hf
theorem Q1l {σ τ : Type} {r : {ρ : Type} → σ → (σ → Option ρ) → (τ → Option ρ) → Option ρ} (S : Nat → σ) (n : Nat) (T : τ)
  (hstep : ∀ i, i < n → ∀ (kn : σ → Option τ) (ke : τ → Option τ), r (S i) kn ke = kn (S (i + 1))) (hend : ∀ (kn : σ → Option τ) (ke : τ → Option τ), r (S n) kn ke = ke T)
  {fuel : Nat} (hf : n < fuel) : Q1j r fuel (S 0) = some T := Q7w S n T 0 (fun i _ hi => hstep i hi) hend (Nat.zero_le _) (by omega)
theorem Qcp {σ τ : Type} {r : {ρ : Type} → σ → (σ → Option ρ) → (τ → Option ρ) → Option ρ} (I : Nat → σ → Prop) (T : τ → Prop)
  (h : ∀ n s, I n s → (∃ s' m, m < n ∧ I m s' ∧ ∀ (kn : σ → Option τ) (ke : τ → Option τ), r s kn ke = kn s') ∨ (∃ t, T t ∧ ∀ (kn : σ → Option τ) (ke : τ → Option τ), r s kn ke = ke t)) :
  ∀ (n fuel : Nat) (s : σ), n < fuel → I n s → ∃ t, T t ∧ Q1j r fuel s = some t
 | n, fuel + 1, s, hf, hi => by
  rcases h n s hi with ⟨s', m, hm, hI, hr⟩ | ⟨t, ht, hr⟩
  ·obtain ⟨t, ht, h2⟩ := Qcp I T h m fuel s' (by omega) hI
   exact ⟨t, ht, (hr (Q1j r fuel) some).trans h2⟩
  ·exact ⟨t, ht, hr (Q1j r fuel) some⟩
theorem i64_in {n : Int} (h : -9223372036854775808 ≤ n ∧ n ≤ 9223372036854775807) : IntKind.i64.wrap n = n := IntWalk.i64_in n h
theorem u64_in {n : Int} (h : 0 ≤ n ∧ n ≤ 18446744073709551615) : IntKind.u64.wrap n = n := IntWalk.u64_in n h
theorem u8_in {n : Int} (h : 0 ≤ n ∧ n ≤ 255) : IntKind.u8.wrap n = n := IntWalk.u8_in n h
theorem Q1M {a b : Nat} (h : a ≤ b) : Nat.ble a b = true := by rw [Nat.ble_eq]; exact h
theorem Qaw (n : Int) : IntKind.u8.wrap n = n % 256 := IntKind.wrap_u8 n
theorem Q5A (n : Int) : IntKind.u32.wrap n = n % 4294967296 := IntKind.wrap_u32 n
theorem Q8X (n : Int) : IntKind.u64.wrap n = n % 18446744073709551616 := IntKind.wrap_u64 n
theorem Q3x {n : Int} (h : 0 ≤ n ∧ n ≤ 4294967295) : IntKind.u32.wrap n = n := by rw [Q5A]; omega
theorem Q1f {α : Type} {b : Bool} {x y : α} (h : b = true) : (bif b then x else y) = x := by rw [h]; rfl
theorem Qad {α : Type} {b : Bool} {x y : α} (h : b = false) : (bif b then x else y) = y := by rw [h]; rfl
theorem Q0X {α : Type} {p : Prop} [Decidable p] {x y : α} (h : p) : (bif decide p then x else y) = x := by rw [decide_eq_true h]; rfl
theorem Q1R {α : Type} {p : Prop} [Decidable p] {x y : α} (h : ¬ p) : (bif decide p then x else y) = y := by rw [decide_eq_false h]; rfl
theorem Q8U (k : IntKind) (x y : Int) : Q0Z .or k x y = Q0Z .or k y x := by
 simp only [Q0Z, BitVec.or_comm]
theorem QcC (k : IntKind) (x y : Int) : Q0Z .xor k x y = Q0Z .xor k y x := by
 simp only [Q0Z, BitVec.xor_comm]
theorem QcA (k : IntKind) (x y : Int) : Q0Z .and k x y = Q0Z .and k y x := by
 simp only [Q0Z, BitVec.and_comm]
theorem toNat_ofInt (w A : Nat) (h : A < 2 ^ w) : (BitVec.ofInt w (A : Int)).toNat = A := by
 rw [BitVec.toNat_ofInt]
 have : ((A : Int) % ((2 : Nat) ^ w : Nat)).toNat = A % 2 ^ w := by
  rw [← Int.natCast_emod]; rfl
 rw [this]
 exact Nat.mod_eq_of_lt h
theorem QdT {A B : Nat} (ha : A < 4294967296) (hb : B < 4294967296) : Q0Z .and .u32 (A : Int) (B : Int) = ((A &&& B : Nat) : Int) := by
 show IntKind.u32.wrap (((BitVec.ofInt 32 (A : Int) &&& BitVec.ofInt 32 (B : Int) : BitVec 32).toNat : Nat) : Int) = _
 rw [BitVec.toNat_and, toNat_ofInt 32 A (by simpa using ha), toNat_ofInt 32 B (by simpa using hb)]
 exact Q3x ⟨by omega, by have : A &&& B ≤ A := Nat.and_le_left; omega⟩
theorem QdA {A B : Nat} (ha : A < 4294967296) (hb : B < 4294967296) : Q0Z .or .u32 (A : Int) (B : Int) = ((A ||| B : Nat) : Int) := by
 show IntKind.u32.wrap (((BitVec.ofInt 32 (A : Int) ||| BitVec.ofInt 32 (B : Int) : BitVec 32).toNat : Nat) : Int) = _
 rw [BitVec.toNat_or, toNat_ofInt 32 A (by simpa using ha), toNat_ofInt 32 B (by simpa using hb)]
 exact Q3x ⟨by omega, by have : A ||| B < 2 ^ 32 := Nat.or_lt_two_pow (by simpa using ha) (by simpa using hb); simp at this; omega⟩
theorem QcV {A B : Nat} (ha : A < 4294967296) (hb : B < 4294967296) : Q0Z .xor .u32 (A : Int) (B : Int) = ((A ^^^ B : Nat) : Int) := by
 show IntKind.u32.wrap (((BitVec.ofInt 32 (A : Int) ^^^ BitVec.ofInt 32 (B : Int) : BitVec 32).toNat : Nat) : Int) = _
 rw [BitVec.toNat_xor, toNat_ofInt 32 A (by simpa using ha), toNat_ofInt 32 B (by simpa using hb)]
 exact Q3x ⟨by omega, by have : A ^^^ B < 2 ^ 32 := Nat.xor_lt_two_pow (by simpa using ha) (by simpa using hb); simp at this; omega⟩
theorem QcQ {x : Int} (h : 0 ≤ x ∧ x ≤ 4294967295) : notI .u32 x = 4294967295 - x := by
 obtain ⟨A, rfl⟩ := Int.eq_ofNat_of_zero_le h.1
 show Q0Z .xor .u32 (4294967295 : Int) (A : Int) = _
 rw [show (4294967295 : Int) = ((4294967295 : Nat) : Int) from rfl, QcV (by omega) (by omega)]
 have : 4294967295 ^^^ A = 4294967295 - A := by
  have h1 : (BitVec.allOnes 32 ^^^ BitVec.ofNat 32 A).toNat = 4294967295 - A := by
   rw [BitVec.allOnes_xor, BitVec.toNat_not, BitVec.toNat_ofNat, Nat.mod_eq_of_lt (by omega)]
  rw [← h1, BitVec.toNat_xor, BitVec.toNat_allOnes, BitVec.toNat_ofNat, Nat.mod_eq_of_lt (show A < 2 ^ 32 by omega)]
 rw [this]; omega
theorem Qcs (op : BinOp) (x y : Int) (h : op = .and ∨ op = .or ∨ op = .xor) : 0 ≤ Q0Z op .u32 x y ∧ Q0Z op .u32 x y ≤ 4294967295 := by
 rcases h with rfl | rfl | rfl <;> simp only [Q0Z] <;> rw [Q5A] <;> omega
theorem Qdz {A B j : Nat} (ha : A < 2 ^ j) : A ||| B * 2 ^ j = B * 2 ^ j + A := by
 rw [Nat.or_comm, Nat.mul_comm, ← Nat.two_pow_add_eq_or_of_lt ha]
theorem Q3Z {A B j : Nat} (ha : A < 2 ^ j) (hlt : B * 2 ^ j + A < 4294967296) : Q0Z .or .u32 ((B * 2 ^ j : Nat) : Int) (A : Int) = ((B * 2 ^ j + A : Nat) : Int) := by
 rw [QdA (by omega) (by omega), Nat.or_comm, Qdz ha]
theorem Q77 (x : Int) {j : Nat} (hj : j ≤ 32) : Q2T .u32 x (j : Int) = (x * 2 ^ j) % 4294967296 := by
 unfold Q2T
 rw [show min (j : Int).toNat IntKind.u32.bits = j by simp [IntKind.bits]; omega, Q5A]
theorem QdS {x : Int} {j : Nat} (hj : j ≤ 32) : Q1V .u32 x (j : Int) = x / 2 ^ j := by
 unfold Q1V
 rw [show min (j : Int).toNat IntKind.u32.bits = j by simp [IntKind.bits]; omega]
 exact Int.fdiv_eq_ediv_of_nonneg _ (Int.le_of_lt (Int.pow_pos (by omega)))
def Qe0 (a b c d : Int) : Int := ((a * 256 + b) * 256 + c) * 256 + d
def QdW (x : Int) : Prop := 0 ≤ x ∧ x < 256
def QdZ (x : Int) : Prop := 0 ≤ x ∧ x ≤ 4294967295
end Go.Am
namespace Go.Am
open Go
def kc : List Int := [1116352408, 1899447441, 3049323471, 3921009573, 961987163, 1508970993, 2453635748, 2870763221, 3624381080, 310598401, 607225278, 1426881987, 1925078388, 2162078206, 2614888103, 3248222580, 3835390401, 4022224774, 264347078, 604807628, 770255983, 1249150122, 1555081692, 1996064986, 2554220882, 2821834349, 2952996808, 3210313671, 3336571891, 3584528711, 113926993, 338241895, 666307205, 773529912, 1294757372, 1396182291, 1695183700, 1986661051, 2177026350, 2456956037, 2730485921, 2820302411, 3259730800, 3345764771, 3516065817, 3600352804, 4094571909, 275423344, 430227734, 506948616, 659060556, 883997877, 958139571, 1322822218, 1537002063, 1747873779, 1955562222, 2024104815, 2227730452, 2361852424, 2428436474, 2756734187, 3204031479, 3329325298]
theorem Q79 {α : Type} {f : Nat → α} {y : List α} {i : Nat} (hi : i < y.length) : ((List.range i).map f ++ y.drop i).set i (f i) = (List.range (i + 1)).map f ++ y.drop (i + 1) := by
 rw [List.set_append_right _ _ (by simp)]
 simp only [List.length_map, List.length_range, Nat.sub_self]
 rw [List.drop_eq_getElem_cons hi, List.set_cons_zero, List.range_succ, List.map_append]
 simp
theorem Qb1 {α : Type} {f : Nat → α} {y : List α} {i : Nat} (d : α) : ((List.range i).map f ++ y.drop i).getD i d = y.getD i d := by
 rw [List.getD_eq_getElem?_getD, List.getElem?_append_right (by simp)]
 simp [List.getD_eq_getElem?_getD]
theorem Q7s {α : Type} {f : Nat → α} {y : List α} {n : Nat} (h : y.length ≤ n) : (List.range n).map f ++ y.drop n = (List.range n).map f := by
 rw [List.drop_eq_nil_of_le h]; simp
def rotr (x n : Int) : Int := Q0Z .or .u32 (Q1V .u32 x n) (Q2T .u32 x (32 - n))
theorem Q2f (k : Nat) (x : Int) {n : Int} (h : 0 ≤ n ∧ n ≤ 32) : QW k x n = some (rotr x n, ()) := by
 unfold QW QW.c
 rw [i64_in (n := 32 - n) (by omega)]
 dsimp only
 rw [Q0X h.1, Q0X (by omega)]
 rfl
theorem QaQ (n : Nat) (h : n < 18446744073709551616) : Q0Z .and .u64 (n : Int) (31 : Int) = ((n % 32 : Nat) : Int) := by
 show IntKind.u64.wrap (((BitVec.ofInt 64 (n : Int) &&& BitVec.ofInt 64 ((31 : Nat) : Int) : BitVec 64).toNat : Nat) : Int) = _
 rw [BitVec.toNat_and, toNat_ofInt 64 n (by simpa using h), toNat_ofInt 64 31 (by decide)]
 rw [show (31 : Nat) = 2 ^ 5 - 1 from rfl, Nat.and_two_pow_sub_one_eq_mod]
 exact u64_in (by omega)
theorem Q1w (k : Nat) (x : Int) {n : Int} (h : 0 < n ∧ n < 32) : Q0U k x n = some (rotr x n, ()) := by
 unfold Q0U Q0U.c QT QT.c
 rw [i64_in (n := 0 - n) (by omega)]
 dsimp only
 have e : IntKind.u64.wrap (0 - n) = (((18446744073709551616 - n).toNat : Nat) : Int) := by rw [Q8X]; omega
 rw [e, QaQ _ (by omega)]
 have e2 : (((18446744073709551616 - n).toNat % 32 : Nat) : Int) = 32 - n := by omega
 rw [e2, u64_in (n := 32 - (32 - n)) (by omega), show (32 : Int) - (32 - n) = n by omega]
 rw [Q0X (by omega), Q0X (by omega)]
 simp only [Option.bind_some]
 rw [Q8U]
 rfl
def part (blk : List Int) (i : Nat) : Nat → Int
 | 0 => 0
 | j + 1 => part blk i j * 256 + blk.getD (4 * i + j) 0
def Q1y (lo hi : Int) (l : List Int) : Prop := ∀ x ∈ l, lo ≤ x ∧ x ≤ hi
theorem Q21 {lo hi : Int} {l : List Int} (h : Q1y lo hi l) (h0 : lo ≤ 0 ∧ 0 ≤ hi) (i : Nat) : lo ≤ l.getD i 0 ∧ l.getD i 0 ≤ hi := by
 rw [List.getD_eq_getElem?_getD]
 cases hi' : l[i]? with
 | none => simpa using h0
 | some x => exact h x (List.mem_of_getElem? hi')
theorem Q7M {blk : List Int} (hb : Q1y 0 255 blk) (i : Nat) : ∀ j, 0 ≤ part blk i j ∧ part blk i j < 256 ^ j
 | 0 => by simp [part]
 | j + 1 => by
  have ih := Q7M hb i j
  have hx := Q21 hb (by omega) (4 * i + j)
  simp only [part, Int.pow_succ]
  have : part blk i j + 1 ≤ 256 ^ j := by omega
  omega
def sig1 (x : Int) : Int := Q0Z .xor .u32 (Q0Z .xor .u32 (rotr x 17) (rotr x 19)) (Q1V .u32 x 10)
def sig0 (x : Int) : Int := Q0Z .xor .u32 (Q0Z .xor .u32 (rotr x 7) (rotr x 18)) (Q1V .u32 x 3)
def ext (w : List Int) (t : Nat) : Int :=
 IntKind.u32.wrap (IntKind.u32.wrap (IntKind.u32.wrap (sig1 (w.getD (t - 2) 0) + w.getD (t - 7) 0) + sig0 (w.getD (t - 15) 0)) + w.getD (t - 16) 0)
def wl (blk : List Int) : Nat → List Int
 | 0 => []
 | n + 1 => wl blk n ++ [if n < 16 then part blk n 4 else ext (wl blk n) n]
theorem Q2K (blk : List Int) : ∀ n, (wl blk n).length = n
 | 0 => rfl
 | n + 1 => by simp [wl, Q2K blk n]
def wz (blk : List Int) (n : Nat) : List Int := wl blk n ++ List.replicate (64 - n) 0
theorem Q9k (blk : List Int) {n : Nat} (h : n < 64) (v : Int) (hv : v = if n < 16 then part blk n 4 else ext (wl blk n) n) : (wz blk n).set n v = wz blk (n + 1) := by
 unfold wz
 rw [List.set_append_right _ _ (by rw [Q2K]; omega), Q2K, Nat.sub_self, show 64 - n = (64 - (n + 1)) + 1 by omega, List.replicate_succ, List.set_cons_zero, wl, hv]
 simp
theorem Q49 (blk : List Int) {n i : Nat} (h : i < n) : (wz blk n).getD i 0 = (wl blk n).getD i 0 := by
 unfold wz
 rw [List.getD_eq_getElem?_getD, List.getD_eq_getElem?_getD, List.getElem?_append_left (by rw [Q2K]; exact h)]
theorem QcZ (blk : List Int) {n : Nat} : (wz blk n).getD n 0 = 0 := by
 unfold wz
 rw [List.getD_eq_getElem?_getD, List.getElem?_append_right (by rw [Q2K]; omega), Q2K, Nat.sub_self]
 cases h : 64 - n <;> simp [List.replicate_succ]
theorem QbS (blk : List Int) {n : Nat} (h : n ≤ 64) : (wz blk n).length = 64 := by
 simp [wz, Q2K]; omega
theorem QcI {x b : Int} (hx : 0 ≤ x ∧ x < 16777216) (hb : 0 ≤ b ∧ b ≤ 255) : Q0Z .or .u32 (Q2T .u32 x 8) (IntKind.u32.wrap b) = x * 256 + b := by
 rw [Q3x (n := b) (by omega), show (8 : Int) = ((8 : Nat) : Int) from rfl, Q77 x (by omega)]
 obtain ⟨X, rfl⟩ := Int.eq_ofNat_of_zero_le hx.1
 obtain ⟨B, rfl⟩ := Int.eq_ofNat_of_zero_le hb.1
 have : ((X : Int) * 2 ^ 8) % 4294967296 = ((X * 2 ^ 8 : Nat) : Int) := by simp; omega
 rw [this, Q3Z (by omega) (by omega)]
 omega
theorem Qcl (k : Nat) {blk : List Int} (hb : Q1y 0 255 blk) (hlen : blk.length = 64) {i : Nat} (hi : i < 16) (z : List Int) {fuel : Nat} (hf : 4 < fuel) :
  Qj.l1 k fuel ((i : Int), (i : Int), (4 * i, 4), (4 : Int), (0 : Int), blk, z, wz blk i, ()) = some ((i : Int), blk, z, wz blk (i + 1), ()) := by
 have h0 : (wz blk i).set i 0 = wz blk i := by
  have := QcZ blk (n := i)
  apply List.ext_getElem?
  intro j
  rw [List.getElem?_set]
  split
  ·rename_i e
   subst e
   split
   ·rename_i hlt
    rw [List.getD_eq_getElem?_getD, List.getElem?_eq_getElem hlt] at this
    simp only [Option.getD_some] at this
    rw [List.getElem?_eq_getElem hlt, this]
   ·rename_i hlt
    rw [List.getElem?_eq_none (by omega)]
  ·rfl
 have := Q1l (r := Qj.l1.r k) (fun j => ((i : Int), (i : Int), (4 * i, 4), (4 : Int), (j : Int), blk, z, (wz blk i).set i (part blk i j), ())) 4 ((i : Int), blk, z, wz blk (i + 1), ()) ?_ ?_ hf
 ·rw [part, h0] at this
  exact this
 ·intro j hj kn ke
  simp only [Qj.l1.r]
  rw [Q0X (by omega), Q0X (by omega), Q0X (by omega)]
  rw [Q0X (by omega), i64_in (by omega), show (i : Int).toNat = i by omega, show (j : Int).toNat = j by omega]
  have hlt : i < (wz blk i).length := by rw [QbS blk (by omega)]; omega
  have e1 : ((wz blk i).set i (part blk i j)).getD i 0 = part blk i j := by
   rw [List.getD_eq_getElem?_getD, List.getElem?_set_self hlt]; rfl
  have hp := Q7M hb i j
  have hp3 : (256 : Int) ^ j ≤ 16777216 := by
   have : j = 0 ∨ j = 1 ∨ j = 2 ∨ j = 3 := by omega
   rcases this with rfl | rfl | rfl | rfl <;> decide
  rw [e1, QcI (by omega) (Q21 hb (by omega) _), List.set_set]
  rfl
 ·intro kn ke
  simp only [Qj.l1.r]
  rw [Q1R (by omega), Q9k blk (by omega) _ (by rw [if_pos hi])]
theorem Qcz (k : Nat) (hk : 64 < k) {blk : List Int} (hb : Q1y 0 255 blk) (hlen : blk.length = 64) (z : List Int) :
  Qj.l0 k k ((0 : Int), blk, z, wz blk 0, ()) = some (blk, z, wz blk 16, ()) := by
 refine Q1l (r := Qj.l0.r k) (fun i => ((i : Int), blk, z, wz blk i, ())) 16 _ ?_ ?_ (by omega)
 ·intro i hi kn ke
  simp only [Qj.l0.r]
  rw [Q0X (by omega), i64_in (n := 4 * (i : Int)) (by omega), i64_in (n := (i : Int) + 1) (by omega), i64_in (n := 4 * ((i : Int) + 1)) (by omega), Q0X (by omega)]
  rw [show (4 * (i : Int)).toNat = 4 * i by omega, show (4 * ((i : Int) + 1) - 4 * (i : Int)).toNat = 4 by omega]
  have := Qcl k hb hlen hi z (fuel := k) (by omega)
  show (Qj.l1 k k ((i : Int), (i : Int), (4 * i, 4), (4 : Int), (0 : Int), blk, z, wz blk i, ())).bind _ = _
  rw [this]
  simp only [Option.bind_some]
  rw [i64_in (by omega)]
  rfl
 ·intro kn ke
  simp only [Qj.l0.r]
  rw [Q1R (by omega)]
theorem Qc8 (k : Nat) (hk : 64 < k) (blk b z : List Int) :
  Qj.l2 k k ((16 : Int), b, z, wz blk 16, ()) = some (b, z, wz blk 64, ()) := by
 refine Q7w (r := Qj.l2.r k) (fun i => ((i : Int), b, z, wz blk i, ())) 64 _ 16 ?_ ?_ (by omega) (by omega)
 ·intro i h16 hi kn ke
  simp only [Qj.l2.r]
  rw [Q0X (by omega), i64_in (n := (i : Int) - 2) (by omega), i64_in (n := (i : Int) - 15) (by omega), i64_in (n := (i : Int) - 7) (by omega), i64_in (n := (i : Int) - 16) (by omega), i64_in (n := (i : Int) + 1) (by omega)]
  rw [Q0X (by omega), Q0X (by omega)]
  simp only [Q1w k _ (show (0 : Int) < 17 ∧ (17 : Int) < 32 by omega), Q1w k _ (show (0 : Int) < 19 ∧ (19 : Int) < 32 by omega), Q1w k _ (show (0 : Int) < 7 ∧ (7 : Int) < 32 by omega), Q1w k _ (show (0 : Int) < 18 ∧ (18 : Int) < 32 by omega), Option.bind_some]
  rw [Q0X (by omega), Q0X (by omega), Q0X (by omega)]
  rw [show ((i : Int) - 2).toNat = i - 2 by omega, show ((i : Int) - 15).toNat = i - 15 by omega, show ((i : Int) - 7).toNat = i - 7 by omega, show ((i : Int) - 16).toNat = i - 16 by omega, show (i : Int).toNat = i by omega]
  rw [Q49 blk (show i - 2 < i by omega), Q49 blk (show i - 15 < i by omega), Q49 blk (show i - 7 < i by omega), Q49 blk (show i - 16 < i by omega)]
  rw [Q9k blk (by omega) _ (by rw [if_neg (by omega)]; rfl)]
  rfl
 ·intro kn ke
  simp only [Qj.l2.r]
  rw [Q1R (by omega)]
theorem wz_0 (blk : List Int) : List.replicate 64 (0 : Int) = wz blk 0 := rfl
theorem Qdi (blk : List Int) : wz blk 64 = wl blk 64 := by simp [wz]
theorem Q9h {k : Nat} (hk : 64 < k) {blk : List Int} (hb : Q1y 0 255 blk) (hlen : blk.length = 64) : Qj k blk = some (wl blk 64, blk, ()) := by
 unfold Qj Qj.c
 rw [wz_0 blk, Qcz k hk hb hlen]
 simp only [Option.bind_some]
 show (Qj.l2 k k ((16 : Int), blk, wz blk 0, wz blk 16, ())).bind _ = _
 rw [Qc8 k hk, Qdi]
 rfl
theorem Q6v (k : Nat) : Q0O k = some (kc, ()) := rfl
theorem Q6m (k : Nat) : QX k = some (kc, ()) := rfl
def big1 (e : Int) : Int := Q0Z .xor .u32 (Q0Z .xor .u32 (rotr e 6) (rotr e 11)) (rotr e 25)
def big0 (a : Int) : Int := Q0Z .xor .u32 (Q0Z .xor .u32 (rotr a 2) (rotr a 13)) (rotr a 22)
def chF (e f g : Int) : Int := Q0Z .xor .u32 (Q0Z .and .u32 e f) (Q0Z .and .u32 (4294967295 - e) g)
def majF (a b c : Int) : Int := Q0Z .xor .u32 (Q0Z .xor .u32 (Q0Z .and .u32 a b) (Q0Z .and .u32 a c)) (Q0Z .and .u32 b c)
def Q1I (a b : Int) : Int := IntKind.u32.wrap (a + b)
theorem Qa5 (a b c : Int) : Q1I (Q1I a b) c = Q1I a (Q1I b c) := by
 unfold Q1I; simp only [Q5A]; omega
theorem Qan (a b : Int) : Q1I a b = Q1I b a := by
 unfold Q1I; rw [Int.add_comm]
theorem Q6G (a b : Int) : 0 ≤ Q1I a b ∧ Q1I a b ≤ 4294967295 := by unfold Q1I; rw [Q5A]; omega
def rnd (y : List Int) (kt wt : Int) : List Int :=
 let t1 := Q1I (Q1I (Q1I (Q1I (y.getD 7 0) (big1 (y.getD 4 0))) (chF (y.getD 4 0) (y.getD 5 0) (y.getD 6 0))) kt) wt
 [Q1I t1 (Q1I (big0 (y.getD 0 0)) (majF (y.getD 0 0) (y.getD 1 0) (y.getD 2 0))), y.getD 0 0, y.getD 1 0, y.getD 2 0, Q1I (y.getD 3 0) t1, y.getD 4 0, y.getD 5 0, y.getD 6 0]
def rndN (w x : List Int) : Nat → List Int
 | 0 => x
 | t + 1 => rnd (rndN w x t) (kc.getD t 0) (w.getD t 0)
theorem Qdr {y : List Int} (hy : Q1y 0 4294967295 y) (kt wt : Int) : Q1y 0 4294967295 (rnd y kt wt) := by
 intro v hv
 simp only [rnd, List.mem_cons, List.not_mem_nil, or_false] at hv
 rcases hv with rfl | rfl | rfl | rfl | rfl | rfl | rfl | rfl <;> first | exact Q6G _ _ | exact Q21 hy (by omega) _
theorem Q9q {w x : List Int} (hx : Q1y 0 4294967295 x) : ∀ t, Q1y 0 4294967295 (rndN w x t)
 | 0 => hx
 | t + 1 => Qdr (Q9q hx t) _ _
theorem QcD (k : Nat) (hk : 64 < k) {x0 : List Int} (hx : Q1y 0 4294967295 x0) (z w : List Int) :
  Q00.l0 k k ((0 : Int), x0, z, w, kc, x0, ()) = some (x0, z, rndN w x0 64, ()) := by
 refine Q1l (r := Q00.l0.r k) (fun i => ((i : Int), x0, z, w, kc, rndN w x0 i, ())) 64 _ ?_ ?_ (by omega)
 ·intro i hi kn ke
  simp only [Q00.l0.r]
  rw [Q0X (by omega)]
  simp only [Q1w k _ (show (0 : Int) < 6 ∧ (6 : Int) < 32 by omega), Q1w k _ (show (0 : Int) < 11 ∧ (11 : Int) < 32 by omega), Q1w k _ (show (0 : Int) < 25 ∧ (25 : Int) < 32 by omega), Q1w k _ (show (0 : Int) < 2 ∧ (2 : Int) < 32 by omega), Q1w k _ (show (0 : Int) < 13 ∧ (13 : Int) < 32 by omega), Q1w k _ (show (0 : Int) < 22 ∧ (22 : Int) < 32 by omega), Option.bind_some]
  rw [Q0X (by omega), Q0X (by omega), i64_in (n := (i : Int) + 1) (by omega), show (i : Int).toNat = i by omega]
  have hr := Q9q (w := w) hx i
  rw [QcQ (Q21 hr (by omega) 4)]
  show kn ((i : Int) + 1, x0, z, w, kc, [Q1I (Q1I _ _) _, _, _, _, _, _, _, _], ()) = _
  rw [Qa5]
  rfl
 ·intro kn ke
  simp only [Q00.l0.r]
  rw [Q1R (by omega)]
theorem QcF (k : Nat) (hk : 64 < k) (x z y : List Int) (hy : y.length = 8) :
  Q00.l1 k k ((0 : Int), x, z, y, ()) = some (z, (List.range 8).map (fun j => Q1I (y.getD j 0) (x.getD j 0)), ()) := by
 have := Q1l (r := Q00.l1.r k) (fun i => ((i : Int), x, z, (List.range i).map (fun j => Q1I (y.getD j 0) (x.getD j 0)) ++ y.drop i, ())) 8 (z, (List.range 8).map (fun j => Q1I (y.getD j 0) (x.getD j 0)), ()) ?_ ?_ (fuel := k) (by omega)
 ·simp only [List.range_zero, List.map_nil, List.nil_append, List.drop_zero] at this
  exact this
 ·intro i hi kn ke
  simp only [Q00.l1.r]
  rw [Q0X (by omega), Q0X (by omega), Q0X (by omega), Q0X (by omega), i64_in (n := (i : Int) + 1) (by omega), show (i : Int).toNat = i by omega, Qb1]
  show kn ((i : Int) + 1, x, z, List.set _ i (Q1I (y.getD i 0) (x.getD i 0)), ()) = _
  rw [Q79 (f := fun j => Q1I (y.getD j 0) (x.getD j 0)) (by omega)]
  rfl
 ·intro kn ke
  simp only [Q00.l1.r]
  rw [Q1R (by omega), Q7s (by omega)]
def Q6R (x blk : List Int) : List Int := (List.range 8).map fun j => Q1I ((rndN (wl blk 64) x 64).getD j 0) (x.getD j 0)
theorem Q9R {w x : List Int} (hx : x.length = 8) : ∀ t, (rndN w x t).length = 8
 | 0 => hx
 | _ + 1 => rfl
theorem Q9i (x blk : List Int) : (Q6R x blk).length = 8 := by simp [Q6R]
theorem Qcg (x blk : List Int) : Q1y 0 4294967295 (Q6R x blk) := by
 intro v hv
 simp only [Q6R, List.mem_map] at hv
 obtain ⟨j, _, rfl⟩ := hv
 exact Q6G _ _
theorem Qa7 {k : Nat} (hk : 64 < k) {x blk : List Int} (hx : Q1y 0 4294967295 x) (hxl : x.length = 8) (hb : Q1y 0 255 blk) (hlen : blk.length = 64) : Q00 k x blk = some (Q6R x blk, ()) := by
 unfold Q00 Q00.c
 rw [Q9h hk hb hlen, Q6v]
 simp only [Option.bind_some]
 rw [QcD k hk hx]
 simp only [Option.bind_some]
 rw [QcF k hk _ _ _ (Q9R hxl 64)]
 rfl
theorem Qdt (k : Nat) (hk : 64 < k) {blk : List Int} (hb : Q1y 0 255 blk) (hlen : blk.length = 64) (s z kk : List Int) :
  Q0.l0 k k ((0 : Int), s, blk, z, kk, wz blk 0, ()) = some (s, z, kk, wl blk 64, ()) := by
 rw [← Qdi blk]
 refine Q1l (r := Q0.l0.r k) (fun i => ((i : Int), s, blk, z, kk, wz blk i, ())) 64 _ ?_ ?_ (by omega)
 ·intro i hi kn ke
  simp only [Q0.l0.r]
  rw [Q0X (by omega)]
  by_cases h16 : i < 16
  ·rw [Q0X (by omega), i64_in (n := 4 * (i : Int)) (by omega), i64_in (n := 4 * (i : Int) + 1) (by omega), i64_in (n := 4 * (i : Int) + 2) (by omega), i64_in (n := 4 * (i : Int) + 3) (by omega), i64_in (n := (i : Int) + 1) (by omega)]
   rw [Q0X (by omega), Q0X (by omega), Q0X (by omega), Q0X (by omega), Q0X (by omega)]
   rw [show (4 * (i : Int)).toNat = 4 * i by omega, show (4 * (i : Int) + 1).toNat = 4 * i + 1 by omega, show (4 * (i : Int) + 2).toNat = 4 * i + 2 by omega, show (4 * (i : Int) + 3).toNat = 4 * i + 3 by omega, show (i : Int).toNat = i by omega]
   have b0 := Q21 hb (by omega) (4 * i)
   have b1 := Q21 hb (by omega) (4 * i + 1)
   have b2 := Q21 hb (by omega) (4 * i + 2)
   have b3 := Q21 hb (by omega) (4 * i + 3)
   have hp : part blk i 4 = ((blk.getD (4 * i) 0 * 256 + blk.getD (4 * i + 1) 0) * 256 + blk.getD (4 * i + 2) 0) * 256 + blk.getD (4 * i + 3) 0 := by
    simp [part]
   rw [Q9k blk (by omega) _ ?_]
   ·rfl
   ·rw [if_pos h16, hp]
    generalize blk.getD (4 * i) 0 = x0 at *
    generalize blk.getD (4 * i + 1) 0 = x1 at *
    generalize blk.getD (4 * i + 2) 0 = x2 at *
    generalize blk.getD (4 * i + 3) 0 = x3 at *
    obtain ⟨X0, rfl⟩ := Int.eq_ofNat_of_zero_le b0.1
    obtain ⟨X1, rfl⟩ := Int.eq_ofNat_of_zero_le b1.1
    obtain ⟨X2, rfl⟩ := Int.eq_ofNat_of_zero_le b2.1
    obtain ⟨X3, rfl⟩ := Int.eq_ofNat_of_zero_le b3.1
    simp only [Q3x (show 0 ≤ ((X0 : Nat) : Int) ∧ ((X0 : Nat) : Int) ≤ 4294967295 by omega), Q3x (show 0 ≤ ((X1 : Nat) : Int) ∧ ((X1 : Nat) : Int) ≤ 4294967295 by omega), Q3x (show 0 ≤ ((X2 : Nat) : Int) ∧ ((X2 : Nat) : Int) ≤ 4294967295 by omega), Q3x (show 0 ≤ ((X3 : Nat) : Int) ∧ ((X3 : Nat) : Int) ≤ 4294967295 by omega)]
    rw [show (24 : Int) = ((24 : Nat) : Int) from rfl, show (16 : Int) = ((16 : Nat) : Int) from rfl, show (8 : Int) = ((8 : Nat) : Int) from rfl, Q77 _ (by omega), Q77 _ (by omega), Q77 _ (by omega)]
    rw [show ((X0 : Int) * 2 ^ 24) % 4294967296 = ((X0 * 2 ^ 24 : Nat) : Int) by simp; omega, show ((X1 : Int) * 2 ^ 16) % 4294967296 = ((X1 * 2 ^ 16 : Nat) : Int) by simp; omega, show ((X2 : Int) * 2 ^ 8) % 4294967296 = ((X2 * 2 ^ 8 : Nat) : Int) by simp; omega]
    rw [Q3Z (A := X1 * 2 ^ 16) (B := X0) (j := 24) (by omega) (by omega)]
    rw [show X0 * 2 ^ 24 + X1 * 2 ^ 16 = (X0 * 256 + X1) * 2 ^ 16 by omega, Q3Z (A := X2 * 2 ^ 8) (j := 16) (by omega) (by omega)]
    rw [show (X0 * 256 + X1) * 2 ^ 16 + X2 * 2 ^ 8 = ((X0 * 256 + X1) * 256 + X2) * 2 ^ 8 by omega, Q3Z (A := X3) (j := 8) (by omega) (by omega)]
    omega
  ·rw [Q1R (by omega), i64_in (n := (i : Int) - 2) (by omega), i64_in (n := (i : Int) - 15) (by omega), i64_in (n := (i : Int) - 7) (by omega), i64_in (n := (i : Int) - 16) (by omega), i64_in (n := (i : Int) + 1) (by omega)]
   rw [Q0X (by omega), Q0X (by omega)]
   simp only [Q2f k _ (show (0 : Int) ≤ 17 ∧ (17 : Int) ≤ 32 by omega), Q2f k _ (show (0 : Int) ≤ 19 ∧ (19 : Int) ≤ 32 by omega), Q2f k _ (show (0 : Int) ≤ 7 ∧ (7 : Int) ≤ 32 by omega), Q2f k _ (show (0 : Int) ≤ 18 ∧ (18 : Int) ≤ 32 by omega), Option.bind_some]
   rw [Q0X (by omega), Q0X (by omega), Q0X (by omega)]
   rw [show ((i : Int) - 2).toNat = i - 2 by omega, show ((i : Int) - 15).toNat = i - 15 by omega, show ((i : Int) - 7).toNat = i - 7 by omega, show ((i : Int) - 16).toNat = i - 16 by omega, show (i : Int).toNat = i by omega]
   rw [Q49 blk (show i - 2 < i by omega), Q49 blk (show i - 15 < i by omega), Q49 blk (show i - 7 < i by omega), Q49 blk (show i - 16 < i by omega)]
   rw [Q9k blk (by omega) _ (by rw [if_neg (by omega)]; rfl)]
   rfl
 ·intro kn ke
  simp only [Q0.l0.r]
  rw [Q1R (by omega)]
theorem Qdq (k : Nat) (hk : 64 < k) {x0 : List Int} (hx : Q1y 0 4294967295 x0) (s z w : List Int) :
  Q0.l1 k k ((0 : Int), s, z, kc, w, x0, ()) = some (s, z, rndN w x0 64, ()) := by
 refine Q1l (r := Q0.l1.r k) (fun i => ((i : Int), s, z, kc, w, rndN w x0 i, ())) 64 _ ?_ ?_ (by omega)
 ·intro i hi kn ke
  simp only [Q0.l1.r]
  rw [Q0X (by omega)]
  simp only [Q2f k _ (show (0 : Int) ≤ 6 ∧ (6 : Int) ≤ 32 by omega), Q2f k _ (show (0 : Int) ≤ 11 ∧ (11 : Int) ≤ 32 by omega), Q2f k _ (show (0 : Int) ≤ 25 ∧ (25 : Int) ≤ 32 by omega), Q2f k _ (show (0 : Int) ≤ 2 ∧ (2 : Int) ≤ 32 by omega), Q2f k _ (show (0 : Int) ≤ 13 ∧ (13 : Int) ≤ 32 by omega), Q2f k _ (show (0 : Int) ≤ 22 ∧ (22 : Int) ≤ 32 by omega), Option.bind_some]
  rw [Q0X (by omega), Q0X (by omega), i64_in (n := (i : Int) + 1) (by omega), show (i : Int).toNat = i by omega]
  have hr := Q21 (Q9q (w := w) hx i) (by omega) 4
  rw [Q3x (n := 4294967295 - (rndN w x0 i).getD 4 0) (by omega)]
  rfl
 ·intro kn ke
  simp only [Q0.l1.r]
  rw [Q1R (by omega)]
theorem QdH (k : Nat) (hk : 64 < k) (x z y : List Int) (hx : x.length = 8) :
  Q0.l2 k k ((0 : Int), x, z, y, ()) = some ((List.range 8).map (fun j => Q1I (x.getD j 0) (y.getD j 0)), z, ()) := by
 have := Q1l (r := Q0.l2.r k) (fun i => ((i : Int), (List.range i).map (fun j => Q1I (x.getD j 0) (y.getD j 0)) ++ x.drop i, z, y, ())) 8 ((List.range 8).map (fun j => Q1I (x.getD j 0) (y.getD j 0)), z, ()) ?_ ?_ (fuel := k) (by omega)
 ·simp only [List.range_zero, List.map_nil, List.nil_append, List.drop_zero] at this
  exact this
 ·intro i hi kn ke
  simp only [Q0.l2.r]
  rw [Q0X (by omega), Q0X (by omega), Q0X (by omega), Q0X (by omega), i64_in (n := (i : Int) + 1) (by omega), show (i : Int).toNat = i by omega, Qb1]
  show kn ((i : Int) + 1, List.set _ i (Q1I (x.getD i 0) (y.getD i 0)), z, y, ()) = _
  rw [Q79 (f := fun j => Q1I (x.getD j 0) (y.getD j 0)) (by omega)]
  rfl
 ·intro kn ke
  simp only [Q0.l2.r]
  rw [Q1R (by omega), Q7s (by omega)]
theorem Q9Q {k : Nat} (hk : 64 < k) {x blk : List Int} (hx : Q1y 0 4294967295 x) (hxl : x.length = 8) (hb : Q1y 0 255 blk) (hlen : blk.length = 64) : Q0 k x blk = some (Q6R x blk, ()) := by
 unfold Q0 Q0.c
 rw [Q6m, wz_0 blk]
 simp only [Option.bind_some]
 rw [Qdt k hk hb hlen]
 simp only [Option.bind_some]
 rw [Qdq k hk hx]
 simp only [Option.bind_some]
 rw [QdH k hk _ _ _ hxl]
 simp only [Option.bind_some]
 have e : (List.range 8).map (fun j => Q1I (x.getD j 0) ((rndN (wl blk 64) x 64).getD j 0)) = Q6R x blk := List.map_congr_left fun j _ => Qan _ _
 rw [e]
end Go.Am
