/- A part of a proof: a machine of abstract values that tells what functions of the program compute, and the plain facts on them. -/
import Derived.Test.YtpcjmcpghhmidaaAm9
import Derived.KernelRfl
set_option linter.unusedVariables false
set_option linter.unusedSimpArgs false
set_option linter.unnecessarySimpa false
set_option linter.unusedSectionVars false
namespace Go.Am
abbrev Qgb : Ty := (.arr 4 (.int .u64))
abbrev Qga : Type := (Int × (Int × Unit))
abbrev Qg9 : Type := (ByteArray ×  Qga )
abbrev Qg8 : Type := ((List Int) × (ByteArray × (Int × Unit)))
abbrev Qg7 : Ty := (.pair (.int .u64) (.pair (.int .u64) .unit))
abbrev Qg6 : Type := (Int ×  Qg9  × Unit)
abbrev Qg5 : Ty := (.pair .str (.pair (.int .i64) (.pair (.int .i64) .unit)))
abbrev Qg4 : Ty := (.pair  Qgb  (.pair .str (.pair (.int .i64) .unit)))
end Go.Am
namespace Go.Am
open Go Go.Proofs
set_option maxRecDepth 100000
abbrev Q0n.τ : Type := (Qg8 × Unit)
def Q0n.c (k : Nat) {ρ : Type} (k_0 : Qga) (K : Q0n.τ → Option ρ) : Option ρ :=
 let v0 : Int := k_0.1
 let v1 : Int := (Qw BinOp.xor IntKind.u64 v0 (8317987319222330741 : Int))
 let v2 : Int := k_0.2.1
 let v3 : Int := (Qw BinOp.xor IntKind.u64 v2 (7237128888997146477 : Int))
 let v4 : Int := k_0.1
 let v5 : Int := (Qw BinOp.xor IntKind.u64 v4 (7816392313619706465 : Int))
 let v6 : Int := k_0.2.1
 let v7 : Int := (Qw BinOp.xor IntKind.u64 v6 (8387220255154660723 : Int))
 let v8 : (List Int) := (List.set (List.set (List.set (List.set (List.replicate 4 (0 : Int)) 0 v1) 1 v3) 2 v5) 3 v7)
 K ((v8, ((⟨(List.toArray [])⟩ : ByteArray), ((0 : Int), ()))), ())
def Q0n (k : Nat) (k_0 : Qga) : Option Q0n.τ := Q0n.c k k_0 some
def Q0n.T : Q0V := ⟨[.dat Qg7], [], 0⟩
def Q0n.os : List Out := [⟨.ret, [.auto 0], ⟨[.ptr 0 []], [.dat Qg4]⟩⟩]
def Q0n.sem (k : Nat) : QK := Q1j Q0n.T Q0n.os fun x => Q0n k x.1
noncomputable def Q0n.ctx (k : Nat) : Ctx := ⟨Try.prog, gam []⟩
theorem Q0n.gok (k : Nat) : ∀ f, Qz Try.prog f ((Q0n.ctx k).Γ f) := Q03
def Q0n.ann (k : Nat) : Ann := .nil
theorem Q0n.body (k : Nat) : Q1E (Q0n.ctx k) Try.f25 (Func.code Try.f25) (Q0n.ann k) Q0n.T Q0n.os (fun x K => Q0n.c k x.1 K) := by
 intro ρ x K; kernel_rfl
theorem Q0n.sem_ok (k : Nat) : Qz Try.prog 25 (Q0n.sem k) :=
 Q0E (C := Q0n.ctx k) (Q0n.gok k) Try.mix (c := Func.code Try.f25) (ann := Q0n.ann k) (T := Q0n.T) (os := Q0n.os) (fun x K => Q0n.c k x.1 K) Try.func25 (by kernel_rfl) (by kernel_rfl) Q8.nil (Q0n.body k) (by kernel_rfl) (by kernel_rfl) (by kernel_rfl)
abbrev QD.τ : Type := (Qg9 × Unit)
def QD.c (k : Nat) {ρ : Type} (s : ByteArray) (K : QD.τ → Option ρ) : Option ρ :=
 K ((s, ((0 : Int), ((0 : Int), ()))), ())
def QD (k : Nat) (s : ByteArray) : Option QD.τ := QD.c k s some
def QD.T : Q0V := ⟨[.dat .str], [], 0⟩
def QD.os : List Out := [⟨.ret, [.auto 0], ⟨[.ptr 0 []], [.dat Qg5]⟩⟩]
def QD.sem (k : Nat) : QK := Q1j QD.T QD.os fun x => QD k x.1
noncomputable def QD.ctx (k : Nat) : Ctx := ⟨Try.prog, gam []⟩
theorem QD.gok (k : Nat) : ∀ f, Qz Try.prog f ((QD.ctx k).Γ f) := Q03
def QD.ann (k : Nat) : Ann := .nil
theorem QD.body (k : Nat) : Q1E (QD.ctx k) Try.f68 (Func.code Try.f68) (QD.ann k) QD.T QD.os (fun x K => QD.c k x.1 K) := by
 intro ρ x K; kernel_rfl
theorem QD.sem_ok (k : Nat) : Qz Try.prog 68 (QD.sem k) :=
 Q0E (C := QD.ctx k) (QD.gok k) Try.mix (c := Func.code Try.f68) (ann := QD.ann k) (T := QD.T) (os := QD.os) (fun x K => QD.c k x.1 K) Try.func68 (by kernel_rfl) (by kernel_rfl) Q8.nil (QD.body k) (by kernel_rfl) (by kernel_rfl) (by kernel_rfl)
abbrev QG.τ : Type := Qg6 
def QG.c (k : Nat) {ρ : Type} (b0 : Qg9) (K : QG.τ → Option ρ) : Option ρ :=
 let v0 : Int := b0.2.2.1
 K (v0, ((b0.1, (b0.2.1, (b0.2.2.1, ()))), ()))
def QG (k : Nat) (b0 : Qg9) : Option QG.τ := QG.c k b0 some
def QG.T : Q0V := ⟨[.ptr 0 []], [.dat Qg5], 1⟩
def QG.os : List Out := [⟨.ret, [.freeze (.slot 0), .auto 1], ⟨[.dat (.int .i64)], [.dat Qg5]⟩⟩]
def QG.sem (k : Nat) : QK := Q1j QG.T QG.os fun x => QG k x.1
noncomputable def QG.ctx (k : Nat) : Ctx := ⟨Try.prog, gam []⟩
theorem QG.gok (k : Nat) : ∀ f, Qz Try.prog f ((QG.ctx k).Γ f) := Q03
def QG.ann (k : Nat) : Ann := .nil
theorem QG.body (k : Nat) : Q1E (QG.ctx k) Try.f98 (Func.code Try.f98) (QG.ann k) QG.T QG.os (fun x K => QG.c k x.1 K) := by
 intro ρ x K; kernel_rfl
theorem QG.sem_ok (k : Nat) : Qz Try.prog 98 (QG.sem k) :=
 Q0E (C := QG.ctx k) (QG.gok k) Try.mix (c := Func.code Try.f98) (ann := QG.ann k) (T := QG.T) (os := QG.os) (fun x K => QG.c k x.1 K) Try.func98 (by kernel_rfl) (by kernel_rfl) Q8.nil (QG.body k) (by kernel_rfl) (by kernel_rfl) (by kernel_rfl)
abbrev QJ.τ : Type := Qg6 
def QJ.c (k : Nat) {ρ : Type} (b0 : Qg9) (K : QJ.τ → Option ρ) : Option ρ :=
 let v0 : ByteArray := b0.1
 let v1 : Int := b0.2.1
 let v2 : Int := (IntKind.wrap IntKind.i64 ((((ByteArray.size v0) : Nat) : Int) - v1))
 K (v2, ((b0.1, (b0.2.1, (b0.2.2.1, ()))), ()))
def QJ (k : Nat) (b0 : Qg9) : Option QJ.τ := QJ.c k b0 some
def QJ.T : Q0V := ⟨[.ptr 0 []], [.dat Qg5], 1⟩
def QJ.os : List Out := [⟨.ret, [.freeze (.slot 0), .auto 1], ⟨[.dat (.int .i64)], [.dat Qg5]⟩⟩]
def QJ.sem (k : Nat) : QK := Q1j QJ.T QJ.os fun x => QJ k x.1
noncomputable def QJ.ctx (k : Nat) : Ctx := ⟨Try.prog, gam []⟩
theorem QJ.gok (k : Nat) : ∀ f, Qz Try.prog f ((QJ.ctx k).Γ f) := Q03
def QJ.ann (k : Nat) : Ann := .nil
theorem QJ.body (k : Nat) : Q1E (QJ.ctx k) Try.f120 (Func.code Try.f120) (QJ.ann k) QJ.T QJ.os (fun x K => QJ.c k x.1 K) := by
 intro ρ x K; kernel_rfl
theorem QJ.sem_ok (k : Nat) : Qz Try.prog 120 (QJ.sem k) :=
 Q0E (C := QJ.ctx k) (QJ.gok k) Try.mix (c := Func.code Try.f120) (ann := QJ.ann k) (T := QJ.T) (os := QJ.os) (fun x K => QJ.c k x.1 K) Try.func120 (by kernel_rfl) (by kernel_rfl) Q8.nil (QJ.body k) (by kernel_rfl) (by kernel_rfl) (by kernel_rfl)
abbrev Qu.τ : Type := (ByteArray × Qg9 × Unit)
def Qu.c (k : Nat) {ρ : Type} (n : Int) (b0 : Qg9) (K : Qu.τ → Option ρ) : Option ρ :=
 (QG k (b0.1, (b0.2.1, (b0.2.2.1, ())))).bind fun t0 => bif (t0.1 != (0 : Int)) then (K ((⟨(List.toArray [])⟩ : ByteArray), ((t0.2.1.1, (t0.2.1.2.1, (t0.2.1.2.2.1, ()))), ()))) else (bif (decide (n < (0 : Int))) then (K ((⟨(List.toArray [])⟩ : ByteArray), ((t0.2.1.1, (t0.2.1.2.1, ((1 : Int), ()))), ()))) else ((QJ k (t0.2.1.1, (t0.2.1.2.1, (t0.2.1.2.2.1, ())))).bind fun t1 => bif (decide (n > t1.1)) then (K ((⟨(List.toArray [])⟩ : ByteArray), ((t1.2.1.1, (t1.2.1.2.1, ((4 : Int), ()))), ()))) else (let v2 : Int := t1.2.1.2.1
 let v3 : Int := (IntKind.wrap IntKind.i64 (v2 + n))
 let v4 : ByteArray := t1.2.1.1
 let v5 : Int := (IntKind.wrap IntKind.i64 (v3 - n))
 bif (decide (((0 : Int) ≤ v5) ∧ ((v5 ≤ v3) ∧ (v3 ≤ (((ByteArray.size v4) : Nat) : Int))))) then (K ((ByteArray.extract v4 (Int.toNat v5) (Int.toNat v3)), ((t1.2.1.1, (v3, (t1.2.1.2.2.1, ()))), ()))) else (none))))
def Qu (k : Nat) (n : Int) (b0 : Qg9) : Option Qu.τ := Qu.c k n b0 some
def Qu.T : Q0V := ⟨[.ptr 0 [], .dat (.int .i64)], [.dat Qg5], 1⟩
def Qu.os : List Out := [⟨.ret, [.freeze (.slot 0), .auto 1], ⟨[.dat .str], [.dat Qg5]⟩⟩]
def Qu.sem (k : Nat) : QK := Q1j Qu.T Qu.os fun x => Qu k x.1 x.2.1
noncomputable def Qu.ctx (k : Nat) : Ctx := ⟨Try.prog, gam [(98, (QG.sem k)), (120, (QJ.sem k))]⟩
theorem Qu.gok (k : Nat) : ∀ f, Qz Try.prog f ((Qu.ctx k).Γ f) := (QA (QG.sem_ok k) (QA (QJ.sem_ok k) Q03))
def Qu.ann (k : Nat) : Ann := .nil
theorem Qu.body (k : Nat) : Q1E (Qu.ctx k) Try.f97 (Func.code Try.f97) (Qu.ann k) Qu.T Qu.os (fun x K => Qu.c k x.1 x.2.1 K) := by
 intro ρ x K; kernel_rfl
theorem Qu.sem_ok (k : Nat) : Qz Try.prog 97 (Qu.sem k) :=
 Q0E (C := Qu.ctx k) (Qu.gok k) Try.mix (c := Func.code Try.f97) (ann := Qu.ann k) (T := Qu.T) (os := Qu.os) (fun x K => Qu.c k x.1 x.2.1 K) Try.func97 (by kernel_rfl) (by kernel_rfl) Q8.nil (Qu.body k) (by kernel_rfl) (by kernel_rfl) (by kernel_rfl)
abbrev QM.l0.σ : Type := ByteArray × Int × Int × Int × Unit
abbrev QM.l0.τ : Type := (Int × Unit)
def QM.l0.r (k : Nat) {ρ : Type} (x : QM.l0.σ) (kn : QM.l0.σ → Option ρ) (ke : QM.l0.τ → Option ρ) : Option ρ :=
 bif (decide (x.2.2.2.1 < x.2.2.1)) then (bif (decide (((0 : Int) ≤ x.2.2.2.1) ∧ (x.2.2.2.1 < (((ByteArray.size x.1) : Nat) : Int)))) then (let v0 : Int := (Q0C x.1 (Int.toNat x.2.2.2.1))
 let v1 : Int := (IntKind.wrap IntKind.i64 ((8 : Int) * x.2.2.2.1))
 bif (decide ((0 : Int) ≤ v1)) then (let v2 : Int := (Qw BinOp.or IntKind.u64 x.2.1 (Q1H IntKind.u64 (IntKind.wrap IntKind.u64 v0) v1))
 let v3 : Int := (IntKind.wrap IntKind.i64 (x.2.2.2.1 + (1 : Int)))
 kn (x.1, (v2, (x.2.2.1, (v3, ()))))) else (none)) else (none)) else (ke (x.2.1, ()))
def QM.l0 (k : Nat) : Nat → QM.l0.σ → Option QM.l0.τ := Q0o (QM.l0.r k)
def QM.l0.T : StT := ⟨.dat .str :: us 2 ++ .dat (.int .u64) :: us 2 ++ .dat (.int .i64) :: .dat (.int .i64) :: us 13, []⟩
def QM.l0.os : List Out := [⟨(.exit 0), [.mask [3], .auto 0], ⟨us 3 ++ .dat (.int .u64) :: us 17, []⟩⟩]
def QM.c (k : Nat) {ρ : Type} (s : ByteArray) (K : Int × Unit → Option ρ) : Option ρ :=
 (QM.l0 k k (s, ((0 : Int), ((((ByteArray.size s) : Nat) : Int), ((0 : Int), ()))))).bind fun t4 => K (t4.1, ())
def QM (k : Nat) (s : ByteArray) : Option (Int × Unit) := QM.c k s some
def QM.tin : List Ty := [.str]
def QM.tout : List Ty := [(.int .u64)]
def QM.sem (k : Nat) : QK := QR QM.tin QM.tout fun x => QM k x.1
noncomputable def QM.ctx (k : Nat) : Ctx := ⟨Try.prog, gam []⟩
theorem QM.gok (k : Nat) : ∀ f, Qz Try.prog f ((QM.ctx k).Γ f) := Q03
theorem QM.l0.round (k : Nat) : Q0s (QM.ctx k) (QZ (Func.code Try.f101) [1, 1, 0, 1, 0, 0]) (.nil) QM.l0.T [.mask [0, 3, 6, 7], .auto 0] QM.l0.os (QM.l0.r k) := by
 intro ρ x kn ke; kernel_rfl
theorem QM.l0.ok (k : Nat) : StOK 0 Try.prog (.loop (QZ (Func.code Try.f101) [1, 1, 0, 1, 0, 0])) (QE QM.l0.T QM.l0.os (QM.l0 k k)) :=
 Q0u (C := QM.ctx k) (QM.gok k) Try.mix Q8.nil (by kernel_rfl) (by kernel_rfl) (by kernel_rfl) (QM.l0.round k) k
def QM.ann (k : Nat) : Ann := .node [] none (.nil) (.node [] none (.nil) (.node [] none (.node [] none (.nil) (.node [] none (.node [] (some (QE QM.l0.T QM.l0.os (QM.l0 k k))) .nil .nil) (.nil))) (.nil)))
theorem QM.body (k : Nat) : Q0t (QM.ctx k) Try.f101 (Func.code Try.f101) (QM.ann k) QM.tin QM.tout (fun x K => QM.c k x.1 K) := by
 intro ρ x K; kernel_rfl
theorem QM.sem_ok (k : Nat) : Qz Try.prog 101 (QM.sem k) :=
 QT (C := QM.ctx k) (QM.gok k) Try.mix (c := Func.code Try.f101) (ann := QM.ann k) (tin := QM.tin) (tout := QM.tout) (fun x K => QM.c k x.1 K) Try.func101 (by kernel_rfl) (by kernel_rfl) (Q8.seq Q8.nil (Q8.seq Q8.nil (Q8.seq (Q8.seq Q8.nil (Q8.block (Q8.loop (by kernel_rfl) (QM.l0.ok k)))) Q8.nil))) (QM.body k)
abbrev Qv.τ : Type := Qg6 
def Qv.c (k : Nat) {ρ : Type} (b0 : Qg9) (K : Qv.τ → Option ρ) : Option ρ :=
 (Qu k (8 : Int) (b0.1, (b0.2.1, (b0.2.2.1, ())))).bind fun t0 => (QM k t0.1).bind fun t1 => K (t1.1, ((t0.2.1.1, (t0.2.1.2.1, (t0.2.1.2.2.1, ()))), ()))
def Qv (k : Nat) (b0 : Qg9) : Option Qv.τ := Qv.c k b0 some
def Qv.T : Q0V := ⟨[.ptr 0 []], [.dat Qg5], 1⟩
def Qv.os : List Out := [⟨.ret, [.freeze (.slot 0), .auto 1], ⟨[.dat (.int .u64)], [.dat Qg5]⟩⟩]
def Qv.sem (k : Nat) : QK := Q1j Qv.T Qv.os fun x => Qv k x.1
noncomputable def Qv.ctx (k : Nat) : Ctx := ⟨Try.prog, gam [(97, (Qu.sem k)), (101, (QM.sem k))]⟩
theorem Qv.gok (k : Nat) : ∀ f, Qz Try.prog f ((Qv.ctx k).Γ f) := (QA (Qu.sem_ok k) (QA (QM.sem_ok k) Q03))
def Qv.ann (k : Nat) : Ann := .nil
theorem Qv.body (k : Nat) : Q1E (Qv.ctx k) Try.f69 (Func.code Try.f69) (Qv.ann k) Qv.T Qv.os (fun x K => Qv.c k x.1 K) := by
 intro ρ x K; kernel_rfl
theorem Qv.sem_ok (k : Nat) : Qz Try.prog 69 (Qv.sem k) :=
 Q0E (C := Qv.ctx k) (Qv.gok k) Try.mix (c := Func.code Try.f69) (ann := Qv.ann k) (T := Qv.T) (os := Qv.os) (fun x K => Qv.c k x.1 K) Try.func69 (by kernel_rfl) (by kernel_rfl) Q8.nil (Qv.body k) (by kernel_rfl) (by kernel_rfl) (by kernel_rfl)
def Qi.c (k : Nat) {ρ : Type} (x_0 : Int) (k_1 : Int) (K : Int × Unit → Option ρ) : Option ρ :=
 let v0 : Int := (Qw BinOp.and IntKind.u64 (IntKind.wrap IntKind.u64 k_1) (63 : Int))
 bif (decide ((0 : Int) ≤ v0)) then (let v1 : Int := (IntKind.wrap IntKind.u64 ((64 : Int) - v0))
 bif (decide ((0 : Int) ≤ v1)) then (let v2 : Int := (Qw BinOp.or IntKind.u64 (Q1H IntKind.u64 x_0 v0) (Q10 IntKind.u64 x_0 v1))
 K (v2, ())) else (none)) else (none)
def Qi (k : Nat) (x_0 : Int) (k_1 : Int) : Option (Int × Unit) := Qi.c k x_0 k_1 some
def Qi.tin : List Ty := [(.int .u64), (.int .i64)]
def Qi.tout : List Ty := [(.int .u64)]
def Qi.sem (k : Nat) : QK := QR Qi.tin Qi.tout fun x => Qi k x.1 x.2.1
noncomputable def Qi.ctx (k : Nat) : Ctx := ⟨Try.prog, gam []⟩
theorem Qi.gok (k : Nat) : ∀ f, Qz Try.prog f ((Qi.ctx k).Γ f) := Q03
def Qi.ann (k : Nat) : Ann := .nil
theorem Qi.body (k : Nat) : Q0t (Qi.ctx k) Try.f62 (Func.code Try.f62) (Qi.ann k) Qi.tin Qi.tout (fun x K => Qi.c k x.1 x.2.1 K) := by
 intro ρ x K; kernel_rfl
theorem Qi.sem_ok (k : Nat) : Qz Try.prog 62 (Qi.sem k) :=
 QT (C := Qi.ctx k) (Qi.gok k) Try.mix (c := Func.code Try.f62) (ann := Qi.ann k) (tin := Qi.tin) (tout := Qi.tout) (fun x K => Qi.c k x.1 x.2.1 K) Try.func62 (by kernel_rfl) (by kernel_rfl) Q8.nil (Qi.body k)
def Q02.c (k : Nat) {ρ : Type} (v : (List Int)) (K : (List Int) × Unit → Option ρ) : Option ρ :=
 let v0 : Int := (List.getD v 0 (0 : Int))
 let v1 : Int := (List.getD v 1 (0 : Int))
 let v2 : Int := (IntKind.wrap IntKind.u64 (v0 + v1))
 let v3 : Int := (List.getD (List.set v 0 v2) 1 (0 : Int))
 (Qi k v3 (13 : Int)).bind fun t4 => let v5 : Int := (List.getD (List.set v 0 v2) 0 (0 : Int))
 let v6 : Int := (Qw BinOp.xor IntKind.u64 t4.1 v5)
 let v7 : Int := (List.getD (List.set (List.set v 0 v2) 1 v6) 0 (0 : Int))
 (Qi k v7 (32 : Int)).bind fun t8 => let v9 : Int := (List.getD (List.set (List.set (List.set v 0 v2) 1 v6) 0 t8.1) 2 (0 : Int))
 let v10 : Int := (List.getD (List.set (List.set (List.set v 0 v2) 1 v6) 0 t8.1) 3 (0 : Int))
 let v11 : Int := (IntKind.wrap IntKind.u64 (v9 + v10))
 let v12 : Int := (List.getD (List.set (List.set (List.set (List.set v 0 v2) 1 v6) 0 t8.1) 2 v11) 3 (0 : Int))
 (Qi k v12 (16 : Int)).bind fun t13 => let v14 : Int := (List.getD (List.set (List.set (List.set (List.set v 0 v2) 1 v6) 0 t8.1) 2 v11) 2 (0 : Int))
 let v15 : Int := (Qw BinOp.xor IntKind.u64 t13.1 v14)
 let v16 : Int := (List.getD (List.set (List.set (List.set (List.set (List.set v 0 v2) 1 v6) 0 t8.1) 2 v11) 3 v15) 0 (0 : Int))
 let v17 : Int := (List.getD (List.set (List.set (List.set (List.set (List.set v 0 v2) 1 v6) 0 t8.1) 2 v11) 3 v15) 3 (0 : Int))
 let v18 : Int := (IntKind.wrap IntKind.u64 (v16 + v17))
 let v19 : Int := (List.getD (List.set (List.set (List.set (List.set (List.set (List.set v 0 v2) 1 v6) 0 t8.1) 2 v11) 3 v15) 0 v18) 3 (0 : Int))
 (Qi k v19 (21 : Int)).bind fun t20 => let v21 : Int := (List.getD (List.set (List.set (List.set (List.set (List.set (List.set v 0 v2) 1 v6) 0 t8.1) 2 v11) 3 v15) 0 v18) 0 (0 : Int))
 let v22 : Int := (Qw BinOp.xor IntKind.u64 t20.1 v21)
 let v23 : Int := (List.getD (List.set (List.set (List.set (List.set (List.set (List.set (List.set v 0 v2) 1 v6) 0 t8.1) 2 v11) 3 v15) 0 v18) 3 v22) 2 (0 : Int))
 let v24 : Int := (List.getD (List.set (List.set (List.set (List.set (List.set (List.set (List.set v 0 v2) 1 v6) 0 t8.1) 2 v11) 3 v15) 0 v18) 3 v22) 1 (0 : Int))
 let v25 : Int := (IntKind.wrap IntKind.u64 (v23 + v24))
 let v26 : Int := (List.getD (List.set (List.set (List.set (List.set (List.set (List.set (List.set (List.set v 0 v2) 1 v6) 0 t8.1) 2 v11) 3 v15) 0 v18) 3 v22) 2 v25) 1 (0 : Int))
 (Qi k v26 (17 : Int)).bind fun t27 => let v28 : Int := (List.getD (List.set (List.set (List.set (List.set (List.set (List.set (List.set (List.set v 0 v2) 1 v6) 0 t8.1) 2 v11) 3 v15) 0 v18) 3 v22) 2 v25) 2 (0 : Int))
 let v29 : Int := (Qw BinOp.xor IntKind.u64 t27.1 v28)
 let v30 : Int := (List.getD (List.set (List.set (List.set (List.set (List.set (List.set (List.set (List.set (List.set v 0 v2) 1 v6) 0 t8.1) 2 v11) 3 v15) 0 v18) 3 v22) 2 v25) 1 v29) 2 (0 : Int))
 (Qi k v30 (32 : Int)).bind fun t31 => let v32 : (List Int) := (List.set (List.set (List.set (List.set (List.set (List.set (List.set (List.set (List.set (List.set v 0 v2) 1 v6) 0 t8.1) 2 v11) 3 v15) 0 v18) 3 v22) 2 v25) 1 v29) 2 t31.1)
 K (v32, ())
def Q02 (k : Nat) (v : (List Int)) : Option ((List Int) × Unit) := Q02.c k v some
def Q02.tin : List Ty := [Qgb]
def Q02.tout : List Ty := [Qgb]
def Q02.sem (k : Nat) : QK := QR Q02.tin Q02.tout fun x => Q02 k x.1
noncomputable def Q02.ctx (k : Nat) : Ctx := ⟨Try.prog, gam [(62, (Qi.sem k))]⟩
theorem Q02.gok (k : Nat) : ∀ f, Qz Try.prog f ((Q02.ctx k).Γ f) := (QA (Qi.sem_ok k) Q03)
def Q02.ann (k : Nat) : Ann := .nil
theorem Q02.body (k : Nat) : Q0t (Q02.ctx k) Try.f17 (Func.code Try.f17) (Q02.ann k) Q02.tin Q02.tout (fun x K => Q02.c k x.1 K) := by
 intro ρ x K; kernel_rfl
theorem Q02.sem_ok (k : Nat) : Qz Try.prog 17 (Q02.sem k) :=
 QT (C := Q02.ctx k) (Q02.gok k) Try.mix (c := Func.code Try.f17) (ann := Q02.ann k) (tin := Q02.tin) (tout := Q02.tout) (fun x K => Q02.c k x.1 K) Try.func17 (by kernel_rfl) (by kernel_rfl) Q8.nil (Q02.body k)
def Q05.c (k : Nat) {ρ : Type} (v : (List Int)) (s : ByteArray) (K : (List Int) × Unit → Option ρ) : Option ρ :=
 (QD k s).bind fun t0 => (Qv k (t0.1.1, (t0.1.2.1, (t0.1.2.2.1, ())))).bind fun t1 => let v2 : Int := (List.getD v 3 (0 : Int))
 let v3 : Int := (Qw BinOp.xor IntKind.u64 v2 t1.1)
 (Q02 k (List.set v 3 v3)).bind fun t4 => (Q02 k t4.1).bind fun t5 => let v6 : Int := (List.getD t5.1 0 (0 : Int))
 let v7 : Int := (Qw BinOp.xor IntKind.u64 v6 t1.1)
 let v8 : (List Int) := (List.set t5.1 0 v7)
 K (v8, ())
def Q05 (k : Nat) (v : (List Int)) (s : ByteArray) : Option ((List Int) × Unit) := Q05.c k v s some
def Q05.tin : List Ty := [Qgb, .str]
def Q05.tout : List Ty := [Qgb]
def Q05.sem (k : Nat) : QK := QR Q05.tin Q05.tout fun x => Q05 k x.1 x.2.1
noncomputable def Q05.ctx (k : Nat) : Ctx := ⟨Try.prog, gam [(68, (QD.sem k)), (69, (Qv.sem k)), (17, (Q02.sem k))]⟩
theorem Q05.gok (k : Nat) : ∀ f, Qz Try.prog f ((Q05.ctx k).Γ f) := (QA (QD.sem_ok k) (QA (Qv.sem_ok k) (QA (Q02.sem_ok k) Q03)))
def Q05.ann (k : Nat) : Ann := .nil
theorem Q05.body (k : Nat) : Q0t (Q05.ctx k) Try.f73 (Func.code Try.f73) (Q05.ann k) Q05.tin Q05.tout (fun x K => Q05.c k x.1 x.2.1 K) := by
 intro ρ x K; kernel_rfl
theorem Q05.sem_ok (k : Nat) : Qz Try.prog 73 (Q05.sem k) :=
 QT (C := Q05.ctx k) (Q05.gok k) Try.mix (c := Func.code Try.f73) (ann := Q05.ann k) (tin := Q05.tin) (tout := Q05.tout) (fun x K => Q05.c k x.1 x.2.1 K) Try.func73 (by kernel_rfl) (by kernel_rfl) Q8.nil (Q05.body k)
def QS.c (k : Nat) {ρ : Type} (s : ByteArray) (K : ByteArray × Unit → Option ρ) : Option ρ :=
 (stringslite_Clone k s).bind fun t0 => K (t0.1, ())
def QS (k : Nat) (s : ByteArray) : Option (ByteArray × Unit) := QS.c k s some
def QS.tin : List Ty := [.str]
def QS.tout : List Ty := [.str]
def QS.sem (k : Nat) : QK := QR QS.tin QS.tout fun x => QS k x.1
noncomputable def QS.ctx (k : Nat) : Ctx := ⟨Try.prog, gam [(102, (stringslite_Clone.sem k))]⟩
theorem QS.gok (k : Nat) : ∀ f, Qz Try.prog f ((QS.ctx k).Γ f) := (QA (stringslite_Clone.sem_ok k) Q03)
def QS.ann (k : Nat) : Ann := .nil
theorem QS.body (k : Nat) : Q0t (QS.ctx k) Try.f74 (Func.code Try.f74) (QS.ann k) QS.tin QS.tout (fun x K => QS.c k x.1 K) := by
 intro ρ x K; kernel_rfl
theorem QS.sem_ok (k : Nat) : Qz Try.prog 74 (QS.sem k) :=
 QT (C := QS.ctx k) (QS.gok k) Try.mix (c := Func.code Try.f74) (ann := QS.ann k) (tin := QS.tin) (tout := QS.tout) (fun x K => QS.c k x.1 K) Try.func74 (by kernel_rfl) (by kernel_rfl) Q8.nil (QS.body k)
abbrev Qk.l0.σ : Type := ByteArray × Qg8 × Unit
abbrev Qk.l0.τ : Type := (ByteArray × Qg8 × Unit)
def Qk.l0.r (k : Nat) {ρ : Type} (x : Qk.l0.σ) (kn : Qk.l0.σ → Option ρ) (ke : Qk.l0.τ → Option ρ) : Option ρ :=
 let v4 : Int := (((ByteArray.size x.1) : Nat) : Int)
 bif (decide (v4 ≥ (8 : Int))) then (let v5 : (List Int) := x.2.1.1
 bif (decide (((0 : Int) ≤ (0 : Int)) ∧ (((0 : Int) ≤ (8 : Int)) ∧ ((8 : Int) ≤ (((ByteArray.size x.1) : Nat) : Int))))) then (let v6 : ByteArray := (ByteArray.extract x.1 0 8)
 (Q05 k v5 v6).bind fun t7 => bif (decide (((0 : Int) ≤ (8 : Int)) ∧ (((8 : Int) ≤ (((ByteArray.size x.1) : Nat) : Int)) ∧ ((((ByteArray.size x.1) : Nat) : Int) ≤ (((ByteArray.size x.1) : Nat) : Int))))) then (let v8 : ByteArray := (ByteArray.extract x.1 8 (Int.toNat (((ByteArray.size x.1) : Nat) : Int)))
 kn (v8, ((t7.1, (x.2.1.2.1, (x.2.1.2.2.1, ()))), ()))) else (none)) else (none)) else (ke (x.1, ((x.2.1.1, (x.2.1.2.1, (x.2.1.2.2.1, ()))), ())))
def Qk.l0 (k : Nat) : Nat → Qk.l0.σ → Option Qk.l0.τ := Q0o (Qk.l0.r k)
def Qk.l0.T : StT := ⟨.ptr 0 [] :: .dat .str :: us 39, [.dat Qg4]⟩
def Qk.l0.os : List Out := [⟨(.exit 0), [.mask [0, 1], .auto 1], ⟨.ptr 0 [] :: .dat .str :: us 39, [.dat Qg4]⟩⟩]
abbrev Qk.τ : Type := (Qg8 × Unit)
def Qk.c (k : Nat) {ρ : Type} (s : ByteArray) (b0 : Qg8) (K : Qk.τ → Option ρ) : Option ρ :=
 let v0 : Int := b0.2.2.1
 let v1 : Int := (IntKind.wrap IntKind.i64 (v0 + (((ByteArray.size s) : Nat) : Int)))
 let v2 : ByteArray := b0.2.1
 bif (Nat.ble ((ByteArray.size v2) + (ByteArray.size s)) 9223372036854775807) then (let v3 : ByteArray := (v2 ++ s)
 (Qk.l0 k k (v3, ((b0.1, (b0.2.1, (v1, ()))), ()))).bind fun t9 => (QS k t9.1).bind fun t10 => K ((t9.2.1.1, (t10.1, (t9.2.1.2.2.1, ()))), ())) else (none)
def Qk (k : Nat) (s : ByteArray) (b0 : Qg8) : Option Qk.τ := Qk.c k s b0 some
def Qk.T : Q0V := ⟨[.ptr 0 [], .dat .str], [.dat Qg4], 1⟩
def Qk.os : List Out := [⟨.ret, [.auto 1], ⟨[], [.dat Qg4]⟩⟩]
def Qk.sem (k : Nat) : QK := Q1j Qk.T Qk.os fun x => Qk k x.1 x.2.1
noncomputable def Qk.ctx (k : Nat) : Ctx := ⟨Try.prog, gam [(73, (Q05.sem k)), (74, (QS.sem k))]⟩
theorem Qk.gok (k : Nat) : ∀ f, Qz Try.prog f ((Qk.ctx k).Γ f) := (QA (Q05.sem_ok k) (QA (QS.sem_ok k) Q03))
theorem Qk.l0.round (k : Nat) : Q0s (Qk.ctx k) (QZ (Func.code Try.f27) [1, 1, 1, 0, 0, 0]) (.nil) Qk.l0.T [.mask [0, 1], .auto 1] Qk.l0.os (Qk.l0.r k) := by
 intro ρ x kn ke; kernel_rfl
theorem Qk.l0.ok (k : Nat) : StOK 1 Try.prog (.loop (QZ (Func.code Try.f27) [1, 1, 1, 0, 0, 0])) (QE Qk.l0.T Qk.l0.os (Qk.l0 k k)) :=
 Q0u (C := Qk.ctx k) (Qk.gok k) Try.mix Q8.nil (by kernel_rfl) (by kernel_rfl) (by kernel_rfl) (Qk.l0.round k) k
def Qk.ann (k : Nat) : Ann := .node [] none (.nil) (.node [] none (.nil) (.node [] none (.nil) (.node [] none (.node [] none (.node [.mask [0, 1], .auto 1] (some (QE Qk.l0.T Qk.l0.os (Qk.l0 k k))) .nil .nil) (.nil)) (.nil))))
theorem Qk.body (k : Nat) : Q1E (Qk.ctx k) Try.f27 (Func.code Try.f27) (Qk.ann k) Qk.T Qk.os (fun x K => Qk.c k x.1 x.2.1 K) := by
 intro ρ x K; kernel_rfl
theorem Qk.sem_ok (k : Nat) : Qz Try.prog 27 (Qk.sem k) :=
 Q0E (C := Qk.ctx k) (Qk.gok k) Try.mix (c := Func.code Try.f27) (ann := Qk.ann k) (T := Qk.T) (os := Qk.os) (fun x K => Qk.c k x.1 x.2.1 K) Try.func27 (by kernel_rfl) (by kernel_rfl) (Q8.seq Q8.nil (Q8.seq Q8.nil (Q8.seq Q8.nil (Q8.seq (Q8.block (Q8.loop (by kernel_rfl) (Qk.l0.ok k))) Q8.nil)))) (Qk.body k) (by kernel_rfl) (by kernel_rfl) (by kernel_rfl)
abbrev QX.τ : Type := (Int × Qg8 × Unit)
def QX.c (k : Nat) {ρ : Type} (b0 : Qg8) (K : QX.τ → Option ρ) : Option ρ :=
 let v0 : ByteArray := b0.2.1
 let v1 : ByteArray := b0.2.1
 let v2 : Int := (IntKind.wrap IntKind.i64 ((7 : Int) - (((ByteArray.size v1) : Nat) : Int)))
 (strings_Repeat k (⟨(List.toArray [0])⟩ : ByteArray) v2).bind fun t3 => bif (Nat.ble ((ByteArray.size v0) + (ByteArray.size t3.1)) 9223372036854775807) then (let v4 : ByteArray := (v0 ++ t3.1)
 let v5 : Int := b0.2.2.1
 let v6 : ByteArray := (bytesOf (List.set (List.replicate 1 (0 : Int)) 0 (IntKind.wrap IntKind.u8 v5)))
 bif (Nat.ble ((ByteArray.size v4) + (ByteArray.size v6)) 9223372036854775807) then (let v7 : ByteArray := (v4 ++ v6)
 let v8 : (List Int) := b0.1
 (Q05 k v8 v7).bind fun t9 => let v10 : Int := (List.getD t9.1 2 (0 : Int))
 let v11 : Int := (Qw BinOp.xor IntKind.u64 v10 (255 : Int))
 let v12 : (List Int) := (List.set t9.1 2 v11)
 (Q02 k v12).bind fun t13 => (Q02 k t13.1).bind fun t14 => (Q02 k t14.1).bind fun t15 => (Q02 k t15.1).bind fun t16 => let v17 : Int := (List.getD t16.1 0 (0 : Int))
 let v18 : Int := (List.getD t16.1 1 (0 : Int))
 let v19 : Int := (List.getD t16.1 2 (0 : Int))
 let v20 : Int := (Qw BinOp.xor IntKind.u64 (Qw BinOp.xor IntKind.u64 v17 v18) v19)
 let v21 : Int := (List.getD t16.1 3 (0 : Int))
 K ((Qw BinOp.xor IntKind.u64 v20 v21), ((b0.1, (b0.2.1, (b0.2.2.1, ()))), ()))) else (none)) else (none)
def QX (k : Nat) (b0 : Qg8) : Option QX.τ := QX.c k b0 some
def QX.T : Q0V := ⟨[.ptr 0 []], [.dat Qg4], 1⟩
def QX.os : List Out := [⟨.ret, [.freeze (.slot 0), .auto 1], ⟨[.dat (.int .u64)], [.dat Qg4]⟩⟩]
def QX.sem (k : Nat) : QK := Q1j QX.T QX.os fun x => QX k x.1
noncomputable def QX.ctx (k : Nat) : Ctx := ⟨Try.prog, gam [(75, (strings_Repeat.sem k)), (73, (Q05.sem k)), (17, (Q02.sem k))]⟩
theorem QX.gok (k : Nat) : ∀ f, Qz Try.prog f ((QX.ctx k).Γ f) := (QA (strings_Repeat.sem_ok k) (QA (Q05.sem_ok k) (QA (Q02.sem_ok k) Q03)))
def QX.ann (k : Nat) : Ann := .nil
theorem QX.body (k : Nat) : Q1E (QX.ctx k) Try.f29 (Func.code Try.f29) (QX.ann k) QX.T QX.os (fun x K => QX.c k x.1 K) := by
 intro ρ x K; kernel_rfl
theorem QX.sem_ok (k : Nat) : Qz Try.prog 29 (QX.sem k) :=
 Q0E (C := QX.ctx k) (QX.gok k) Try.mix (c := Func.code Try.f29) (ann := QX.ann k) (T := QX.T) (os := QX.os) (fun x K => QX.c k x.1 K) Try.func29 (by kernel_rfl) (by kernel_rfl) Q8.nil (QX.body k) (by kernel_rfl) (by kernel_rfl) (by kernel_rfl)
def Q06.c (k : Nat) {ρ : Type} (k_0 : Qga) (s : ByteArray) (K : Int × Unit → Option ρ) : Option ρ :=
 (Q0n k (k_0.1, (k_0.2.1, ()))).bind fun t0 => (Qk k s (t0.1.1, (t0.1.2.1, (t0.1.2.2.1, ())))).bind fun t1 => (QX k (t1.1.1, (t1.1.2.1, (t1.1.2.2.1, ())))).bind fun t2 => K (t2.1, ())
def Q06 (k : Nat) (k_0 : Qga) (s : ByteArray) : Option (Int × Unit) := Q06.c k k_0 s some
def Q06.tin : List Ty := [Qg7, .str]
def Q06.tout : List Ty := [(.int .u64)]
def Q06.sem (k : Nat) : QK := QR Q06.tin Q06.tout fun x => Q06 k x.1 x.2.1
noncomputable def Q06.ctx (k : Nat) : Ctx := ⟨Try.prog, gam [(25, (Q0n.sem k)), (27, (Qk.sem k)), (29, (QX.sem k))]⟩
theorem Q06.gok (k : Nat) : ∀ f, Qz Try.prog f ((Q06.ctx k).Γ f) := (QA (Q0n.sem_ok k) (QA (Qk.sem_ok k) (QA (QX.sem_ok k) Q03)))
def Q06.ann (k : Nat) : Ann := .nil
theorem Q06.body (k : Nat) : Q0t (Q06.ctx k) Try.f15 (Func.code Try.f15) (Q06.ann k) Q06.tin Q06.tout (fun x K => Q06.c k x.1 x.2.1 K) := by
 intro ρ x K; kernel_rfl
theorem Q06.sem_ok (k : Nat) : Qz Try.prog 15 (Q06.sem k) :=
 QT (C := Q06.ctx k) (Q06.gok k) Try.mix (c := Func.code Try.f15) (ann := Q06.ann k) (tin := Q06.tin) (tout := Q06.tout) (fun x K => Q06.c k x.1 x.2.1 K) Try.func15 (by kernel_rfl) (by kernel_rfl) Q8.nil (Q06.body k)
def Q0k.c (k : Nat) {ρ : Type} (k_0 : Qga) (s : ByteArray) (parts : Int) (K : Int × Int × Unit → Option ρ) : Option ρ :=
 bif (decide (parts < (1 : Int))) then (K ((0 : Int), ((1 : Int), ()))) else (bif (decide (parts > (2147483647 : Int))) then (K ((0 : Int), ((1 : Int), ()))) else ((Q06 k (k_0.1, (k_0.2.1, ())) s).bind fun t0 => bif (!(decide ((IntKind.wrap IntKind.u64 parts) = (0 : Int)))) then (let v1 : Int := (Int.tmod t0.1 (IntKind.wrap IntKind.u64 parts))
 K ((IntKind.wrap IntKind.i64 v1), ((0 : Int), ()))) else (none)))
def Q0k (k : Nat) (k_0 : Qga) (s : ByteArray) (parts : Int) : Option (Int × Int × Unit) := Q0k.c k k_0 s parts some
def Q0k.tin : List Ty := [Qg7, .str, (.int .i64)]
def Q0k.tout : List Ty := [(.int .i64), (.int .i64)]
def Q0k.sem (k : Nat) : QK := QR Q0k.tin Q0k.tout fun x => Q0k k x.1 x.2.1 x.2.2.1
noncomputable def Q0k.ctx (k : Nat) : Ctx := ⟨Try.prog, gam [(15, (Q06.sem k))]⟩
theorem Q0k.gok (k : Nat) : ∀ f, Qz Try.prog f ((Q0k.ctx k).Γ f) := (QA (Q06.sem_ok k) Q03)
def Q0k.ann (k : Nat) : Ann := .nil
theorem Q0k.body (k : Nat) : Q0t (Q0k.ctx k) Try.f13 (Func.code Try.f13) (Q0k.ann k) Q0k.tin Q0k.tout (fun x K => Q0k.c k x.1 x.2.1 x.2.2.1 K) := by
 intro ρ x K; kernel_rfl
theorem Q0k.sem_ok (k : Nat) : Qz Try.prog 13 (Q0k.sem k) :=
 QT (C := Q0k.ctx k) (Q0k.gok k) Try.mix (c := Func.code Try.f13) (ann := Q0k.ann k) (tin := Q0k.tin) (tout := Q0k.tout) (fun x K => Q0k.c k x.1 x.2.1 x.2.2.1 K) Try.func13 (by kernel_rfl) (by kernel_rfl) Q8.nil (Q0k.body k)
def Qp.c (k : Nat) {ρ : Type}  (K : Bool × Unit → Option ρ) : Option ρ :=
 (Q06 k ((506097522914230528 : Int), ((1084818905618843912 : Int), ())) (⟨(List.toArray [])⟩ : ByteArray)).bind fun t0 => K ((t0.1 == (8246050544436514353 : Int)), ())
def Qp (k : Nat)  : Option (Bool × Unit) := Qp.c k  some
def Qp.tin : List Ty := []
def Qp.tout : List Ty := [.bool]
def Qp.sem (k : Nat) : QK := QR Qp.tin Qp.tout fun x => Qp k 
noncomputable def Qp.ctx (k : Nat) : Ctx := ⟨Try.prog, gam [(15, (Q06.sem k))]⟩
theorem Qp.gok (k : Nat) : ∀ f, Qz Try.prog f ((Qp.ctx k).Γ f) := (QA (Q06.sem_ok k) Q03)
def Qp.ann (k : Nat) : Ann := .nil
theorem Qp.body (k : Nat) : Q0t (Qp.ctx k) Try.f14 (Func.code Try.f14) (Qp.ann k) Qp.tin Qp.tout (fun x K => Qp.c k  K) := by
 intro ρ x K; kernel_rfl
theorem Qp.sem_ok (k : Nat) : Qz Try.prog 14 (Qp.sem k) :=
 QT (C := Qp.ctx k) (Qp.gok k) Try.mix (c := Func.code Try.f14) (ann := Qp.ann k) (tin := Qp.tin) (tout := Qp.tout) (fun x K => Qp.c k  K) Try.func14 (by kernel_rfl) (by kernel_rfl) Q8.nil (Qp.body k)
abbrev Qb.l0.σ : Type := ByteArray × Int × Int × Unit
abbrev Qb.l0.τ : Type := (Int × Unit)
def Qb.l0.r (k : Nat) {ρ : Type} (x : Qb.l0.σ) (kn : Qb.l0.σ → Option ρ) (ke : Qb.l0.τ → Option ρ) : Option ρ :=
 bif (decide (x.2.2.1 ≥ (0 : Int))) then (let v1 : Int := (IntKind.wrap IntKind.u64 (x.2.1 * (256 : Int)))
 bif (decide (((0 : Int) ≤ x.2.2.1) ∧ (x.2.2.1 < (((ByteArray.size x.1) : Nat) : Int)))) then (let v2 : Int := (Q0C x.1 (Int.toNat x.2.2.1))
 let v3 : Int := (IntKind.wrap IntKind.u64 (v1 + (IntKind.wrap IntKind.u64 v2)))
 let v4 : Int := (IntKind.wrap IntKind.i64 (x.2.2.1 - (1 : Int)))
 kn (x.1, (v3, (v4, ())))) else (none)) else (ke (x.2.1, ()))
def Qb.l0 (k : Nat) : Nat → Qb.l0.σ → Option Qb.l0.τ := Q0o (Qb.l0.r k)
def Qb.l0.T : StT := ⟨.dat .str :: us 2 ++ .dat (.int .u64) :: .dat (.int .i64) :: us 15, []⟩
def Qb.l0.os : List Out := [⟨(.exit 0), [.mask [3], .auto 0], ⟨us 3 ++ .dat (.int .u64) :: us 16, []⟩⟩]
def Qb.c (k : Nat) {ρ : Type} (s : ByteArray) (K : Int × Unit → Option ρ) : Option ρ :=
 let v0 : Int := (IntKind.wrap IntKind.i64 ((((ByteArray.size s) : Nat) : Int) - (1 : Int)))
 (Qb.l0 k k (s, ((0 : Int), (v0, ())))).bind fun t5 => K (t5.1, ())
def Qb (k : Nat) (s : ByteArray) : Option (Int × Unit) := Qb.c k s some
def Qb.tin : List Ty := [.str]
def Qb.tout : List Ty := [(.int .u64)]
def Qb.sem (k : Nat) : QK := QR Qb.tin Qb.tout fun x => Qb k x.1
noncomputable def Qb.ctx (k : Nat) : Ctx := ⟨Try.prog, gam []⟩
theorem Qb.gok (k : Nat) : ∀ f, Qz Try.prog f ((Qb.ctx k).Γ f) := Q03
theorem Qb.l0.round (k : Nat) : Q0s (Qb.ctx k) (QZ (Func.code Try.f61) [1, 1, 0, 1, 0, 0]) (.nil) Qb.l0.T [.mask [0, 3, 4], .auto 0] Qb.l0.os (Qb.l0.r k) := by
 intro ρ x kn ke; kernel_rfl
theorem Qb.l0.ok (k : Nat) : StOK 0 Try.prog (.loop (QZ (Func.code Try.f61) [1, 1, 0, 1, 0, 0])) (QE Qb.l0.T Qb.l0.os (Qb.l0 k k)) :=
 Q0u (C := Qb.ctx k) (Qb.gok k) Try.mix Q8.nil (by kernel_rfl) (by kernel_rfl) (by kernel_rfl) (Qb.l0.round k) k
def Qb.ann (k : Nat) : Ann := .node [] none (.nil) (.node [] none (.nil) (.node [] none (.node [] none (.nil) (.node [] none (.node [] (some (QE Qb.l0.T Qb.l0.os (Qb.l0 k k))) .nil .nil) (.nil))) (.nil)))
theorem Qb.body (k : Nat) : Q0t (Qb.ctx k) Try.f61 (Func.code Try.f61) (Qb.ann k) Qb.tin Qb.tout (fun x K => Qb.c k x.1 K) := by
 intro ρ x K; kernel_rfl
theorem Qb.sem_ok (k : Nat) : Qz Try.prog 61 (Qb.sem k) :=
 QT (C := Qb.ctx k) (Qb.gok k) Try.mix (c := Func.code Try.f61) (ann := Qb.ann k) (tin := Qb.tin) (tout := Qb.tout) (fun x K => Qb.c k x.1 K) Try.func61 (by kernel_rfl) (by kernel_rfl) (Q8.seq Q8.nil (Q8.seq Q8.nil (Q8.seq (Q8.seq Q8.nil (Q8.block (Q8.loop (by kernel_rfl) (Qb.l0.ok k)))) Q8.nil))) (Qb.body k)
abbrev Qa.l0.σ : Type := Int × Int × Int × Unit
abbrev Qa.l0.τ : Type := (Int × Unit)
def Qa.l0.r (k : Nat) {ρ : Type} (x : Qa.l0.σ) (kn : Qa.l0.σ → Option ρ) (ke : Qa.l0.τ → Option ρ) : Option ρ :=
 bif (decide (x.2.2.1 < x.2.1)) then (let v0 : Int := (IntKind.wrap IntKind.u64 (x.1 * (2 : Int)))
 let v1 : Int := (Q10 IntKind.u64 x.1 (63 : Int))
 let v2 : Int := (IntKind.wrap IntKind.u64 (v0 + v1))
 let v3 : Int := (IntKind.wrap IntKind.i64 (x.2.2.1 + (1 : Int)))
 kn (v2, (x.2.1, (v3, ())))) else (ke (x.1, ()))
def Qa.l0 (k : Nat) : Nat → Qa.l0.σ → Option Qa.l0.τ := Q0o (Qa.l0.r k)
def Qa.l0.T : StT := ⟨.dat (.int .u64) :: .dat (.int .i64) :: us 3 ++ .dat (.int .i64) :: us 11, []⟩
def Qa.l0.os : List Out := [⟨(.exit 0), [.mask [0], .auto 0], ⟨.dat (.int .u64) :: us 16, []⟩⟩]
def Qa.c (k : Nat) {ρ : Type} (x_0 : Int) (n : Int) (K : Int × Unit → Option ρ) : Option ρ :=
 (Qa.l0 k k (x_0, (n, ((0 : Int), ())))).bind fun t4 => K (t4.1, ())
def Qa (k : Nat) (x_0 : Int) (n : Int) : Option (Int × Unit) := Qa.c k x_0 n some
def Qa.tin : List Ty := [(.int .u64), (.int .i64)]
def Qa.tout : List Ty := [(.int .u64)]
def Qa.sem (k : Nat) : QK := QR Qa.tin Qa.tout fun x => Qa k x.1 x.2.1
noncomputable def Qa.ctx (k : Nat) : Ctx := ⟨Try.prog, gam []⟩
theorem Qa.gok (k : Nat) : ∀ f, Qz Try.prog f ((Qa.ctx k).Γ f) := Q03
theorem Qa.l0.round (k : Nat) : Q0s (Qa.ctx k) (QZ (Func.code Try.f63) [1, 0, 1, 0, 0]) (.nil) Qa.l0.T [.mask [0, 1, 5], .auto 0] Qa.l0.os (Qa.l0.r k) := by
 intro ρ x kn ke; kernel_rfl
theorem Qa.l0.ok (k : Nat) : StOK 0 Try.prog (.loop (QZ (Func.code Try.f63) [1, 0, 1, 0, 0])) (QE Qa.l0.T Qa.l0.os (Qa.l0 k k)) :=
 Q0u (C := Qa.ctx k) (Qa.gok k) Try.mix Q8.nil (by kernel_rfl) (by kernel_rfl) (by kernel_rfl) (Qa.l0.round k) k
def Qa.ann (k : Nat) : Ann := .node [] none (.nil) (.node [] none (.node [] none (.nil) (.node [] none (.node [] (some (QE Qa.l0.T Qa.l0.os (Qa.l0 k k))) .nil .nil) (.nil))) (.nil))
theorem Qa.body (k : Nat) : Q0t (Qa.ctx k) Try.f63 (Func.code Try.f63) (Qa.ann k) Qa.tin Qa.tout (fun x K => Qa.c k x.1 x.2.1 K) := by
 intro ρ x K; kernel_rfl
theorem Qa.sem_ok (k : Nat) : Qz Try.prog 63 (Qa.sem k) :=
 QT (C := Qa.ctx k) (Qa.gok k) Try.mix (c := Func.code Try.f63) (ann := Qa.ann k) (tin := Qa.tin) (tout := Qa.tout) (fun x K => Qa.c k x.1 x.2.1 K) Try.func63 (by kernel_rfl) (by kernel_rfl) (Q8.seq Q8.nil (Q8.seq (Q8.seq Q8.nil (Q8.block (Q8.loop (by kernel_rfl) (Qa.l0.ok k)))) Q8.nil)) (Qa.body k)
def Qn.c (k : Nat) {ρ : Type} (v : (List Int)) (K : (List Int) × Unit → Option ρ) : Option ρ :=
 let v0 : Int := (List.getD v 0 (0 : Int))
 let v1 : Int := (List.getD v 1 (0 : Int))
 let v2 : Int := (IntKind.wrap IntKind.u64 (v0 + v1))
 let v3 : Int := (List.getD (List.set v 0 v2) 1 (0 : Int))
 (Qa k v3 (13 : Int)).bind fun t4 => let v5 : Int := (List.getD (List.set v 0 v2) 0 (0 : Int))
 let v6 : Int := (Qw BinOp.xor IntKind.u64 t4.1 v5)
 let v7 : Int := (List.getD (List.set (List.set v 0 v2) 1 v6) 0 (0 : Int))
 (Qa k v7 (32 : Int)).bind fun t8 => let v9 : Int := (List.getD (List.set (List.set (List.set v 0 v2) 1 v6) 0 t8.1) 2 (0 : Int))
 let v10 : Int := (List.getD (List.set (List.set (List.set v 0 v2) 1 v6) 0 t8.1) 3 (0 : Int))
 let v11 : Int := (IntKind.wrap IntKind.u64 (v9 + v10))
 let v12 : Int := (List.getD (List.set (List.set (List.set (List.set v 0 v2) 1 v6) 0 t8.1) 2 v11) 3 (0 : Int))
 (Qa k v12 (16 : Int)).bind fun t13 => let v14 : Int := (List.getD (List.set (List.set (List.set (List.set v 0 v2) 1 v6) 0 t8.1) 2 v11) 2 (0 : Int))
 let v15 : Int := (Qw BinOp.xor IntKind.u64 t13.1 v14)
 let v16 : Int := (List.getD (List.set (List.set (List.set (List.set (List.set v 0 v2) 1 v6) 0 t8.1) 2 v11) 3 v15) 0 (0 : Int))
 let v17 : Int := (List.getD (List.set (List.set (List.set (List.set (List.set v 0 v2) 1 v6) 0 t8.1) 2 v11) 3 v15) 3 (0 : Int))
 let v18 : Int := (IntKind.wrap IntKind.u64 (v16 + v17))
 let v19 : Int := (List.getD (List.set (List.set (List.set (List.set (List.set (List.set v 0 v2) 1 v6) 0 t8.1) 2 v11) 3 v15) 0 v18) 3 (0 : Int))
 (Qa k v19 (21 : Int)).bind fun t20 => let v21 : Int := (List.getD (List.set (List.set (List.set (List.set (List.set (List.set v 0 v2) 1 v6) 0 t8.1) 2 v11) 3 v15) 0 v18) 0 (0 : Int))
 let v22 : Int := (Qw BinOp.xor IntKind.u64 t20.1 v21)
 let v23 : Int := (List.getD (List.set (List.set (List.set (List.set (List.set (List.set (List.set v 0 v2) 1 v6) 0 t8.1) 2 v11) 3 v15) 0 v18) 3 v22) 2 (0 : Int))
 let v24 : Int := (List.getD (List.set (List.set (List.set (List.set (List.set (List.set (List.set v 0 v2) 1 v6) 0 t8.1) 2 v11) 3 v15) 0 v18) 3 v22) 1 (0 : Int))
 let v25 : Int := (IntKind.wrap IntKind.u64 (v23 + v24))
 let v26 : Int := (List.getD (List.set (List.set (List.set (List.set (List.set (List.set (List.set (List.set v 0 v2) 1 v6) 0 t8.1) 2 v11) 3 v15) 0 v18) 3 v22) 2 v25) 1 (0 : Int))
 (Qa k v26 (17 : Int)).bind fun t27 => let v28 : Int := (List.getD (List.set (List.set (List.set (List.set (List.set (List.set (List.set (List.set v 0 v2) 1 v6) 0 t8.1) 2 v11) 3 v15) 0 v18) 3 v22) 2 v25) 2 (0 : Int))
 let v29 : Int := (Qw BinOp.xor IntKind.u64 t27.1 v28)
 let v30 : Int := (List.getD (List.set (List.set (List.set (List.set (List.set (List.set (List.set (List.set (List.set v 0 v2) 1 v6) 0 t8.1) 2 v11) 3 v15) 0 v18) 3 v22) 2 v25) 1 v29) 2 (0 : Int))
 (Qa k v30 (32 : Int)).bind fun t31 => let v32 : (List Int) := (List.set (List.set (List.set (List.set (List.set (List.set (List.set (List.set (List.set (List.set v 0 v2) 1 v6) 0 t8.1) 2 v11) 3 v15) 0 v18) 3 v22) 2 v25) 1 v29) 2 t31.1)
 K (v32, ())
def Qn (k : Nat) (v : (List Int)) : Option ((List Int) × Unit) := Qn.c k v some
def Qn.tin : List Ty := [Qgb]
def Qn.tout : List Ty := [Qgb]
def Qn.sem (k : Nat) : QK := QR Qn.tin Qn.tout fun x => Qn k x.1
noncomputable def Qn.ctx (k : Nat) : Ctx := ⟨Try.prog, gam [(63, (Qa.sem k))]⟩
theorem Qn.gok (k : Nat) : ∀ f, Qz Try.prog f ((Qn.ctx k).Γ f) := (QA (Qa.sem_ok k) Q03)
def Qn.ann (k : Nat) : Ann := .nil
theorem Qn.body (k : Nat) : Q0t (Qn.ctx k) Try.f18 (Func.code Try.f18) (Qn.ann k) Qn.tin Qn.tout (fun x K => Qn.c k x.1 K) := by
 intro ρ x K; kernel_rfl
theorem Qn.sem_ok (k : Nat) : Qz Try.prog 18 (Qn.sem k) :=
 QT (C := Qn.ctx k) (Qn.gok k) Try.mix (c := Func.code Try.f18) (ann := Qn.ann k) (tin := Qn.tin) (tout := Qn.tout) (fun x K => Qn.c k x.1 K) Try.func18 (by kernel_rfl) (by kernel_rfl) Q8.nil (Qn.body k)
abbrev Q5.l0.σ : Type := ByteArray × ByteArray × (List Int) × Unit
abbrev Q5.l0.τ : Type := (ByteArray × ByteArray × (List Int) × Unit)
def Q5.l0.r (k : Nat) {ρ : Type} (x : Q5.l0.σ) (kn : Q5.l0.σ → Option ρ) (ke : Q5.l0.τ → Option ρ) : Option ρ :=
 let v5 : Int := (((ByteArray.size x.2.1) : Nat) : Int)
 bif ((Int.tmod v5 (8 : Int)) != (7 : Int)) then (bif (Nat.ble ((ByteArray.size x.2.1) + 1) 9223372036854775807) then (let v6 : ByteArray := (x.2.1 ++ (⟨(List.toArray [0])⟩ : ByteArray))
 kn (x.1, (v6, (x.2.2.1, ())))) else (none)) else (ke (x.1, (x.2.1, (x.2.2.1, ()))))
def Q5.l0 (k : Nat) : Nat → Q5.l0.σ → Option Q5.l0.τ := Q0o (Q5.l0.r k)
def Q5.l0.T : StT := ⟨us 2 ++ .dat .str :: us 4 ++ .ptr 0 [] :: .dat .str :: us 70, [.dat Qgb]⟩
def Q5.l0.os : List Out := [⟨(.exit 0), [.mask [2, 7, 8], .auto 0], ⟨us 2 ++ .dat .str :: us 4 ++ .ptr 0 [] :: .dat .str :: us 70, [.dat Qgb]⟩⟩]
abbrev Q5.l1.σ : Type := ByteArray × Int × (List Int) × Unit
abbrev Q5.l1.τ : Type := ((List Int) × Unit)
def Q5.l1.r (k : Nat) {ρ : Type} (x : Q5.l1.σ) (kn : Q5.l1.σ → Option ρ) (ke : Q5.l1.τ → Option ρ) : Option ρ :=
 let v11 : Int := (((ByteArray.size x.1) : Nat) : Int)
 bif (decide (x.2.1 < v11)) then (let v12 : Int := (IntKind.wrap IntKind.i64 (x.2.1 + (8 : Int)))
 bif (decide (((0 : Int) ≤ x.2.1) ∧ ((x.2.1 ≤ v12) ∧ (v12 ≤ (((ByteArray.size x.1) : Nat) : Int))))) then (let v13 : ByteArray := (ByteArray.extract x.1 (Int.toNat x.2.1) (Int.toNat v12))
 (Qb k v13).bind fun t14 => let v15 : Int := (List.getD x.2.2.1 3 (0 : Int))
 let v16 : Int := (Qw BinOp.xor IntKind.u64 v15 t14.1)
 let v17 : (List Int) := (List.set x.2.2.1 3 v16)
 (Qn k v17).bind fun t18 => (Qn k t18.1).bind fun t19 => let v20 : Int := (List.getD t19.1 0 (0 : Int))
 let v21 : Int := (Qw BinOp.xor IntKind.u64 v20 t14.1)
 let v22 : Int := (IntKind.wrap IntKind.i64 (x.2.1 + (8 : Int)))
 kn (x.1, (v22, ((List.set t19.1 0 v21), ())))) else (none)) else (ke (x.2.2.1, ()))
def Q5.l1 (k : Nat) : Nat → Q5.l1.σ → Option Q5.l1.τ := Q0o (Q5.l1.r k)
def Q5.l1.T : StT := ⟨us 7 ++ .ptr 0 [] :: .dat .str :: .dat (.int .i64) :: us 69, [.dat Qgb]⟩
def Q5.l1.os : List Out := [⟨(.exit 2), [.mask [7], .auto 0], ⟨us 7 ++ .ptr 0 [] :: us 71, [.dat Qgb]⟩⟩]
def Q5.c (k : Nat) {ρ : Type} (k0 : Int) (k1 : Int) (s : ByteArray) (K : Int × Unit → Option ρ) : Option ρ :=
 let v0 : Int := (Qw BinOp.xor IntKind.u64 k0 (8317987319222330741 : Int))
 let v1 : Int := (Qw BinOp.xor IntKind.u64 k1 (7237128888997146477 : Int))
 let v2 : Int := (Qw BinOp.xor IntKind.u64 k0 (7816392313619706465 : Int))
 let v3 : Int := (Qw BinOp.xor IntKind.u64 k1 (8387220255154660723 : Int))
 let v4 : (List Int) := (List.set (List.set (List.set (List.set (List.replicate 4 (0 : Int)) 0 v0) 1 v1) 2 v2) 3 v3)
 (Q5.l0 k k (s, (s, (v4, ())))).bind fun t7 => let v8 : Int := (((ByteArray.size t7.1) : Nat) : Int)
 let v9 : ByteArray := (bytesOf (List.set (List.replicate 1 (0 : Int)) 0 (IntKind.wrap IntKind.u8 v8)))
 bif (Nat.ble ((ByteArray.size t7.2.1) + (ByteArray.size v9)) 9223372036854775807) then (let v10 : ByteArray := (t7.2.1 ++ v9)
 (Q5.l1 k k (v10, ((0 : Int), (t7.2.2.1, ())))).bind fun t23 => let v24 : Int := (List.getD t23.1 2 (0 : Int))
 let v25 : Int := (Qw BinOp.xor IntKind.u64 v24 (255 : Int))
 let v26 : (List Int) := (List.set t23.1 2 v25)
 (Qn k v26).bind fun t27 => (Qn k t27.1).bind fun t28 => (Qn k t28.1).bind fun t29 => (Qn k t29.1).bind fun t30 => let v31 : Int := (List.getD t30.1 0 (0 : Int))
 let v32 : Int := (List.getD t30.1 1 (0 : Int))
 let v33 : Int := (List.getD t30.1 2 (0 : Int))
 let v34 : Int := (Qw BinOp.xor IntKind.u64 (Qw BinOp.xor IntKind.u64 v31 v32) v33)
 let v35 : Int := (List.getD t30.1 3 (0 : Int))
 K ((Qw BinOp.xor IntKind.u64 v34 v35), ())) else (none)
def Q5 (k : Nat) (k0 : Int) (k1 : Int) (s : ByteArray) : Option (Int × Unit) := Q5.c k k0 k1 s some
def Q5.tin : List Ty := [(.int .u64), (.int .u64), .str]
def Q5.tout : List Ty := [(.int .u64)]
def Q5.sem (k : Nat) : QK := QR Q5.tin Q5.tout fun x => Q5 k x.1 x.2.1 x.2.2.1
noncomputable def Q5.ctx (k : Nat) : Ctx := ⟨Try.prog, gam [(61, (Qb.sem k)), (18, (Qn.sem k))]⟩
theorem Q5.gok (k : Nat) : ∀ f, Qz Try.prog f ((Q5.ctx k).Γ f) := (QA (Qb.sem_ok k) (QA (Qn.sem_ok k) Q03))
theorem Q5.l1.round (k : Nat) : Q0s (Q5.ctx k) (QZ (Func.code Try.f16) [1, 1, 1, 1, 1, 0, 1, 0, 0]) (.nil) Q5.l1.T [.mask [7, 8, 9], .auto 0] Q5.l1.os (Q5.l1.r k) := by
 intro ρ x kn ke; kernel_rfl
theorem Q5.l1.ok (k : Nat) : StOK 0 Try.prog (.loop (QZ (Func.code Try.f16) [1, 1, 1, 1, 1, 0, 1, 0, 0])) (QE Q5.l1.T Q5.l1.os (Q5.l1 k k)) :=
 Q0u (C := Q5.ctx k) (Q5.gok k) Try.mix Q8.nil (by kernel_rfl) (by kernel_rfl) (by kernel_rfl) (Q5.l1.round k) k
theorem Q5.l0.round (k : Nat) : Q0s (Q5.ctx k) (QZ (Func.code Try.f16) [1, 1, 1, 0, 0, 0]) (.nil) Q5.l0.T [.mask [2, 7, 8], .auto 0] Q5.l0.os (Q5.l0.r k) := by
 intro ρ x kn ke; kernel_rfl
theorem Q5.l0.ok (k : Nat) : StOK 0 Try.prog (.loop (QZ (Func.code Try.f16) [1, 1, 1, 0, 0, 0])) (QE Q5.l0.T Q5.l0.os (Q5.l0 k k)) :=
 Q0u (C := Q5.ctx k) (Q5.gok k) Try.mix Q8.nil (by kernel_rfl) (by kernel_rfl) (by kernel_rfl) (Q5.l0.round k) k
def Q5.ann (k : Nat) : Ann := .node [] none (.nil) (.node [] none (.nil) (.node [] none (.nil) (.node [] none (.node [] none (.node [.mask [2, 7, 8], .auto 0] (some (QE Q5.l0.T Q5.l0.os (Q5.l0 k k))) .nil .nil) (.nil)) (.node [] none (.nil) (.node [] none (.node [] none (.nil) (.node [] none (.node [.mask [7, 8, 9], .auto 0] (some (QE Q5.l1.T Q5.l1.os (Q5.l1 k k))) .nil .nil) (.nil))) (.nil))))))
theorem Q5.body (k : Nat) : Q0t (Q5.ctx k) Try.f16 (Func.code Try.f16) (Q5.ann k) Q5.tin Q5.tout (fun x K => Q5.c k x.1 x.2.1 x.2.2.1 K) := by
 intro ρ x K; kernel_rfl
theorem Q5.sem_ok (k : Nat) : Qz Try.prog 16 (Q5.sem k) :=
 QT (C := Q5.ctx k) (Q5.gok k) Try.mix (c := Func.code Try.f16) (ann := Q5.ann k) (tin := Q5.tin) (tout := Q5.tout) (fun x K => Q5.c k x.1 x.2.1 x.2.2.1 K) Try.func16 (by kernel_rfl) (by kernel_rfl) (Q8.seq Q8.nil (Q8.seq Q8.nil (Q8.seq Q8.nil (Q8.seq (Q8.block (Q8.loop (by kernel_rfl) (Q5.l0.ok k))) (Q8.seq Q8.nil (Q8.seq (Q8.seq Q8.nil (Q8.block (Q8.loop (by kernel_rfl) (Q5.l1.ok k)))) Q8.nil)))))) (Q5.body k)
abbrev Q3.p0.σ : Type := ByteArray × Int × Int × Int × Qga × (List Int) × Unit
abbrev Q3.p0.τ : Type := (Bool × Unit) ⊕ (ByteArray × Int × Int × Int × Qga × Unit)
def Q3.p0.r (k : Nat) {ρ : Type} (x : Q3.p0.σ) (K : Q3.p0.τ → Option ρ) : Option ρ :=
 (Qp k ).bind fun t6 => bif (!t6.1) then (K (.inl (false, ()))) else ((Q06 k (x.2.2.2.2.1.1, (x.2.2.2.2.1.2.1, ())) x.1).bind fun t7 => let v8 : Int := x.2.2.2.2.1.1
 let v9 : Int := x.2.2.2.2.1.2.1
 (Q5 k v8 v9 x.1).bind fun t10 => bif (t7.1 != t10.1) then (K (.inl (false, ()))) else (let v11 : (List Int) := x.2.2.2.2.2.1
 (Q02 k v11).bind fun t12 => let v13 : (List Int) := x.2.2.2.2.2.1
 (Qn k v13).bind fun t14 => bif (!(decide (t12.1 = t14.1))) then (K (.inl (false, ()))) else (K (.inr (x.1, (x.2.1, (x.2.2.1, (x.2.2.2.1, ((x.2.2.2.2.1.1, (x.2.2.2.2.1.2.1, ())), ())))))))))
def Q3.p0 (k : Nat) (x : Q3.p0.σ) : Option Q3.p0.τ := Q3.p0.r k x some
def Q3.p0.T : StT := ⟨us 3 ++ .ptr 0 [] :: .dat .str :: .ptr 1 [] :: .dat (.int .i64) :: .dat (.int .i64) :: .dat (.int .i64) :: us 64, [.dat Qg7, .dat Qgb]⟩
def Q3.p0.os : List Out := [⟨.ret, [.mask [2], .auto 0], ⟨us 2 ++ .dat .bool :: us 70, []⟩⟩, ⟨.normal, [.mask [3, 4, 6, 7, 8], .auto 0], ⟨us 3 ++ .ptr 0 [] :: .dat .str :: us 1 ++ .dat (.int .i64) :: .dat (.int .i64) :: .dat (.int .i64) :: us 64, [.dat Qg7]⟩⟩]
abbrev Q3.p1.σ : Type := ByteArray × Int × Int × Int × Qga × Unit
abbrev Q3.p1.τ : Type := (Bool × Unit) ⊕ (ByteArray × Int × Int × Int × Qga × Unit)
def Q3.p1.r (k : Nat) {ρ : Type} (x : Q3.p1.σ) (K : Q3.p1.τ → Option ρ) : Option ρ :=
 bif (decide (x.2.1 < (1 : Int))) then (bif (x.2.2.1 == (0 : Int)) then (K (.inl ((x.2.2.2.1 == (1 : Int)), ()))) else (K (.inl (false, ())))) else (bif (decide (x.2.1 > (2147483647 : Int))) then (bif (x.2.2.1 == (0 : Int)) then (K (.inl ((x.2.2.2.1 == (1 : Int)), ()))) else (K (.inl (false, ())))) else (K (.inr (x.1, (x.2.1, (x.2.2.1, (x.2.2.2.1, ((x.2.2.2.2.1.1, (x.2.2.2.2.1.2.1, ())), ()))))))))
def Q3.p1 (k : Nat) (x : Q3.p1.σ) : Option Q3.p1.τ := Q3.p1.r k x some
def Q3.p1.T : StT := ⟨us 3 ++ .ptr 0 [] :: .dat .str :: us 1 ++ .dat (.int .i64) :: .dat (.int .i64) :: .dat (.int .i64) :: us 64, [.dat Qg7]⟩
def Q3.p1.os : List Out := [⟨.ret, [.mask [2], .auto 0], ⟨us 2 ++ .dat .bool :: us 70, []⟩⟩, ⟨.normal, [.mask [3, 4, 6, 7, 8], .auto 0], ⟨us 3 ++ .ptr 0 [] :: .dat .str :: us 1 ++ .dat (.int .i64) :: .dat (.int .i64) :: .dat (.int .i64) :: us 64, [.dat Qg7]⟩⟩]
def Q3.c (k : Nat) {ρ : Type} (d : (Qga × (ByteArray × ((List Int) × (Int × Unit))))) (K : Bool × Unit → Option ρ) : Option ρ :=
  let v0 : ByteArray := d.2.1
  let v1 : (List Int) := d.2.2.1
  let v2 : Int := d.2.2.2.1
  (Q0k k (d.1.1, (d.1.2.1, ())) v0 v2).bind fun t3 => let v4 : Int := t3.1
  let v5 : Int := t3.2.1
  (Q3.p0 k (v0, (v2, (v4, (v5, ((d.1.1, (d.1.2.1, ())), (v1, ()))))))).bind fun t15 => (match t15 with
 | .inl t16 => (K (t16.1, ()))
 | .inr (t17) => ((Q3.p1 k (t17.1, (t17.2.1, (t17.2.2.1, (t17.2.2.2.1, ((t17.2.2.2.2.1.1, (t17.2.2.2.2.1.2.1, ())), ())))))).bind fun t18 => (match t18 with
 | .inl t19 => (K (t19.1, ()))
 | .inr (t20) => (bif (t20.2.2.2.1 == (0 : Int)) then (let v21 : Int := (IntKind.wrap IntKind.u64 t20.2.2.1)
  let v22 : Int := t20.2.2.2.2.1.1
  let v23 : Int := t20.2.2.2.2.1.2.1
  (Q5 k v22 v23 t20.1).bind fun t24 => let v25 : Int := (IntKind.wrap IntKind.u64 t20.2.1)
  bif (!(decide (v25 = (0 : Int)))) then (let v26 : Int := (Int.tmod t24.1 v25)
  K ((v21 == v26), ())) else (none)) else (K (false, ()))))))
def Q3 (k : Nat) (d : (Qga × (ByteArray × ((List Int) × (Int × Unit))))) : Option (Bool × Unit) := Q3.c k d some
def Q3.tin : List Ty := [(.pair Qg7 (.pair .str (.pair Qgb (.pair (.int .i64) .unit))))]
def Q3.tout : List Ty := [.bool]
def Q3.sem (k : Nat) : QK := QR Q3.tin Q3.tout fun x => Q3 k x.1
noncomputable def Q3.ctx (k : Nat) : Ctx := ⟨Try.prog, gam [(13, (Q0k.sem k)), (14, (Qp.sem k)), (15, (Q06.sem k)), (16, (Q5.sem k)), (17, (Q02.sem k)), (18, (Qn.sem k))]⟩
theorem Q3.gok (k : Nat) : ∀ f, Qz Try.prog f ((Q3.ctx k).Γ f) := (QA (Q0k.sem_ok k) (QA (Qp.sem_ok k) (QA (Q06.sem_ok k) (QA (Q5.sem_ok k) (QA (Q02.sem_ok k) (QA (Qn.sem_ok k) Q03))))))
theorem Q3.p1.is (k : Nat) : Q2B (Q3.ctx k) (QZ (Func.code Try.f3) [1, 1, 1, 1, 0]) (.nil) Q3.p1.T Q3.p1.os (Q3.p1.r k) := by
 intro ρ x K; kernel_rfl
theorem Q3.p1.ok (k : Nat) : StOK 0 Try.prog (QZ (Func.code Try.f3) [1, 1, 1, 1, 0]) (QE Q3.p1.T Q3.p1.os (Q3.p1 k)) :=
 Q2r (C := Q3.ctx k) (T := Q3.p1.T) (os := Q3.p1.os) (Q3.gok k) Try.mix (fun x K => Q3.p1.r k x K) Q8.nil (by kernel_rfl) (by kernel_rfl) (Q3.p1.is k)
theorem Q3.p0.is (k : Nat) : Q2B (Q3.ctx k) (QZ (Func.code Try.f3) [1, 1, 1, 0]) (.nil) Q3.p0.T Q3.p0.os (Q3.p0.r k) := by
 intro ρ x K; kernel_rfl
theorem Q3.p0.ok (k : Nat) : StOK 0 Try.prog (QZ (Func.code Try.f3) [1, 1, 1, 0]) (QE Q3.p0.T Q3.p0.os (Q3.p0 k)) :=
 Q2r (C := Q3.ctx k) (T := Q3.p0.T) (os := Q3.p0.os) (Q3.gok k) Try.mix (fun x K => Q3.p0.r k x K) Q8.nil (by kernel_rfl) (by kernel_rfl) (Q3.p0.is k)
def Q3.ann (k : Nat) : Ann := .node [] none (.nil) (.node [] none (.nil) (.node [] none (.nil) (.node [] none (.node [.mask [3, 4, 5, 6, 7, 8], .auto 0] (some (QE Q3.p0.T Q3.p0.os (Q3.p0 k))) .nil .nil) (.node [] none (.node [.mask [3, 4, 6, 7, 8], .auto 0] (some (QE Q3.p1.T Q3.p1.os (Q3.p1 k))) .nil .nil) (.nil)))))
theorem Q3.body (k : Nat) : Q0t (Q3.ctx k) Try.f3 (Func.code Try.f3) (Q3.ann k) Q3.tin Q3.tout (fun x K => Q3.c k x.1 K) := by
 intro ρ x K; kernel_rfl
theorem Q3.sem_ok (k : Nat) : Qz Try.prog 3 (Q3.sem k) :=
 QT (C := Q3.ctx k) (Q3.gok k) Try.mix (c := Func.code Try.f3) (ann := Q3.ann k) (tin := Q3.tin) (tout := Q3.tout) (fun x K => Q3.c k x.1 K) Try.func3 (by kernel_rfl) (by kernel_rfl) (Q8.seq Q8.nil (Q8.seq Q8.nil (Q8.seq Q8.nil (Q8.seq (Q8.loop (by kernel_rfl) (Q3.p0.ok k)) (Q8.seq (Q8.loop (by kernel_rfl) (Q3.p1.ok k)) Q8.nil))))) (Q3.body k)
end Go.Am
