/- A part of a proof: a machine of abstract values that tells what functions of the program compute, and the plain facts on them. -/
import Derived.Test.YtpcjmcpghhmidaaAm8
import Derived.KernelRfl
set_option linter.unusedVariables false
set_option linter.unusedSimpArgs false
set_option linter.unnecessarySimpa false
set_option linter.unusedSectionVars false
namespace Go.Am
abbrev QgB : Type := ((List Int) × Unit)
abbrev QgA : Ty := (.arr 32 (.int .u8))
abbrev Qgz : Ty := (.arr 8 (.int .u32))
abbrev Qgy : Ty := (.arr 4 (.int .u64))
abbrev Qgx : Type := (Int × (Int × Unit))
abbrev Qgw : Ty := (.arr 64 (.int .u32))
abbrev Qgv : Type := ((Unit × (Unit × Unit)) × Unit)
abbrev Qgu : Type := (ByteArray ×  Qgx )
abbrev Qgt : Type := ((List Int) × (ByteArray × (Int × Unit)))
abbrev Qgs : Ty := (.pair (.int .u64) (.pair (.int .u64) .unit))
abbrev Qgr : Type := (Int ×  Qgu  × Unit)
abbrev Qgq : Type := ( Qgv  × (List Int) × Unit)
abbrev Qgp : Ty := (.pair .str (.pair (.int .i64) (.pair (.int .i64) .unit)))
abbrev Qgo : Ty := (.pair  Qgy  (.pair .str (.pair (.int .i64) .unit)))
end Go.Am
namespace Go.Am
open Go Go.Proofs
set_option maxRecDepth 100000
abbrev Q0s.τ : Type := Qgq 
def Q0s.c (k : Nat) {ρ : Type}  (K : Q0s.τ → Option ρ) : Option ρ :=
 K ((((), ((), ())), ()), ([], ()))
def Q0s (k : Nat)  : Option Q0s.τ := Q0s.c k  some
def Q0s.T : Q1F := ⟨[], [], 0⟩
def Q0s.os : List Out := [⟨.ret, [.auto 0], ⟨[.ptr 0 []], [.pair (.pair (.sfp 0 [0] 180) (.pair (.vbs 1) (.dat .unit))) (.dat .unit), .vec (.int .u8)]⟩⟩]
def Q0s.sem (k : Nat) : QY := Q1U Q0s.T Q0s.os fun x => Q0s k 
noncomputable def Q0s.ctx (k : Nat) : Ctx := ⟨Try.prog, gam []⟩
theorem Q0s.gok (k : Nat) : ∀ f, QG Try.prog f ((Q0s.ctx k).Γ f) := Q0e
def Q0s.ann (k : Nat) : Ann := .nil
theorem Q0s.body (k : Nat) : Q1S (Q0s.ctx k) Try.f76 (Func.code Try.f76) (Q0s.ann k) Q0s.T Q0s.os (fun x K => Q0s.c k  K) := by
 intro ρ x K; kernel_rfl
theorem Q0s.sem_ok (k : Nat) : QG Try.prog 76 (Q0s.sem k) :=
 Q1c (C := Q0s.ctx k) (Q0s.gok k) Try.mix (c := Func.code Try.f76) (ann := Q0s.ann k) (T := Q0s.T) (os := Q0s.os) (fun x K => Q0s.c k  K) Try.func76 (by kernel_rfl) (by kernel_rfl) Q3.nil (Q0s.body k) (by kernel_rfl) (by kernel_rfl) (by kernel_rfl)
abbrev Qz.τ : Type := (Int × Qgv × (List Int) × Unit)
def Qz.c (k : Nat) {ρ : Type} (s : ByteArray) (b0 : Qgv) (b1 : (List Int)) (K : Qz.τ → Option ρ) : Option ρ :=
 bif (Nat.ble (((List.length b1) + (List.length (QB s))) * 1) 140737488355328) then (K ((((ByteArray.size s) : Nat) : Int), ((((), ((), ())), ()), ((b1 ++ (QB s)), ())))) else (none)
def Qz (k : Nat) (s : ByteArray) (b0 : Qgv) (b1 : (List Int)) : Option Qz.τ := Qz.c k s b0 b1 some
def Qz.T : Q1F := ⟨[.ptr 0 [0], .dat .str], [.pair (.pair (.sfp 0 [0] 180) (.pair (.vbs 1) (.dat .unit))) (.dat .unit), .vec (.int .u8)], 1⟩
def Qz.os : List Out := [⟨.ret, [.freeze (.slot 0), .auto 1], ⟨[.dat (.int .i64), .undef], [.pair (.pair (.sfp 0 [0] 180) (.pair (.vbs 1) (.dat .unit))) (.dat .unit), .vec (.int .u8)]⟩⟩]
def Qz.sem (k : Nat) : QY := Q1U Qz.T Qz.os fun x => Qz k x.1 x.2.1 x.2.2.1
noncomputable def Qz.ctx (k : Nat) : Ctx := ⟨Try.prog, gam [(124, (Qec 180 2))]⟩
theorem Qz.gok (k : Nat) : ∀ f, QG Try.prog f ((Qz.ctx k).Γ f) := (Qq Bld.copyCheck Q0e)
def Qz.ann (k : Nat) : Ann := .nil
theorem Qz.body (k : Nat) : Q1S (Qz.ctx k) Try.f106 (Func.code Try.f106) (Qz.ann k) Qz.T Qz.os (fun x K => Qz.c k x.1 x.2.1 x.2.2.1 K) := by
 intro ρ x K; kernel_rfl
theorem Qz.sem_ok (k : Nat) : QG Try.prog 106 (Qz.sem k) :=
 Q1c (C := Qz.ctx k) (Qz.gok k) Try.mix (c := Func.code Try.f106) (ann := Qz.ann k) (T := Qz.T) (os := Qz.os) (fun x K => Qz.c k x.1 x.2.1 x.2.2.1 K) Try.func106 (by kernel_rfl) (by kernel_rfl) Q3.nil (Qz.body k) (by kernel_rfl) (by kernel_rfl) (by kernel_rfl)
abbrev QD.τ : Type := Qgq 
def QD.c (k : Nat) {ρ : Type} (s : ByteArray) (b0 : Qgv) (b1 : (List Int)) (K : QD.τ → Option ρ) : Option ρ :=
 (Qz k s (((), ((), ())), ()) b1).bind fun t0 => K ((((), ((), ())), ()), (t0.2.2.1, ()))
def QD (k : Nat) (s : ByteArray) (b0 : Qgv) (b1 : (List Int)) : Option QD.τ := QD.c k s b0 b1 some
def QD.T : Q1F := ⟨[.ptr 0 [], .dat .str], [.pair (.pair (.sfp 0 [0] 180) (.pair (.vbs 1) (.dat .unit))) (.dat .unit), .vec (.int .u8)], 1⟩
def QD.os : List Out := [⟨.ret, [.auto 1], ⟨[], [.pair (.pair (.sfp 0 [0] 180) (.pair (.vbs 1) (.dat .unit))) (.dat .unit), .vec (.int .u8)]⟩⟩]
def QD.sem (k : Nat) : QY := Q1U QD.T QD.os fun x => QD k x.1 x.2.1 x.2.2.1
noncomputable def QD.ctx (k : Nat) : Ctx := ⟨Try.prog, gam [(106, (Qz.sem k))]⟩
theorem QD.gok (k : Nat) : ∀ f, QG Try.prog f ((QD.ctx k).Γ f) := (Qq (Qz.sem_ok k) Q0e)
def QD.ann (k : Nat) : Ann := .nil
theorem QD.body (k : Nat) : Q1S (QD.ctx k) Try.f95 (Func.code Try.f95) (QD.ann k) QD.T QD.os (fun x K => QD.c k x.1 x.2.1 x.2.2.1 K) := by
 intro ρ x K; kernel_rfl
theorem QD.sem_ok (k : Nat) : QG Try.prog 95 (QD.sem k) :=
 Q1c (C := QD.ctx k) (QD.gok k) Try.mix (c := Func.code Try.f95) (ann := QD.ann k) (T := QD.T) (os := QD.os) (fun x K => QD.c k x.1 x.2.1 x.2.2.1 K) Try.func95 (by kernel_rfl) (by kernel_rfl) Q3.nil (QD.body k) (by kernel_rfl) (by kernel_rfl) (by kernel_rfl)
abbrev Q0r.l0.σ : Type := Int × Int × Int × (List Int) × Unit
abbrev Q0r.l0.τ : Type := QgB 
def Q0r.l0.r (k : Nat) {ρ : Type} (x : Q0r.l0.σ) (kn : Q0r.l0.σ → Option ρ) (ke : Q0r.l0.τ → Option ρ) : Option ρ :=
 bif (decide (x.2.2.1 < x.2.1)) then (let v1 : Int := (IntKind.wrap IntKind.i64 ((8 : Int) * x.2.2.1))
 bif (decide ((0 : Int) ≤ v1)) then (let v2 : Int := (Q1W IntKind.u64 x.1 v1)
 bif (decide (((0 : Int) ≤ x.2.2.1) ∧ (x.2.2.1 < (((List.length x.2.2.2.1) : Nat) : Int)))) then (let v3 : Int := (IntKind.wrap IntKind.i64 (x.2.2.1 + (1 : Int)))
 kn (x.1, (x.2.1, (v3, ((List.set x.2.2.2.1 (Int.toNat x.2.2.1) (IntKind.wrap IntKind.u8 v2)), ()))))) else (none)) else (none)) else (ke (x.2.2.2.1, ()))
def Q0r.l0 (k : Nat) : Nat → Q0r.l0.σ → Option Q0r.l0.τ := Q0Q (Q0r.l0.r k)
def Q0r.l0.T : StT := ⟨.dat (.int .u64) :: us 4 ++ .vsl 0 :: us 4 ++ .dat (.int .i64) :: .dat (.int .i64) :: us 13, [.vec (.int .u8)]⟩
def Q0r.l0.os : List Out := [⟨(.exit 0), [.mask [5], .auto 0], ⟨us 5 ++ .vsl 0 :: us 19, [.vec (.int .u8)]⟩⟩]
def Q0r.c (k : Nat) {ρ : Type} (n : Int) (bytes : Int) (K : ByteArray × Unit → Option ρ) : Option ρ :=
 bif ((decide (((0 : Int) ≤ bytes) ∧ (bytes ≤ bytes))) && (Nat.ble ((Int.toNat bytes) * 1) 140737488355328)) then (let v0 : Int := (((List.length (List.replicate (Int.toNat bytes) (0 : Int))) : Nat) : Int)
 (Q0r.l0 k k (n, (v0, ((0 : Int), ((List.replicate (Int.toNat bytes) (0 : Int)), ()))))).bind fun t4 => K ((bytesOf t4.1), ())) else (none)
def Q0r (k : Nat) (n : Int) (bytes : Int) : Option (ByteArray × Unit) := Q0r.c k n bytes some
def Q0r.tin : List Ty := [(.int .u64), (.int .i64)]
def Q0r.tout : List Ty := [.str]
def Q0r.sem (k : Nat) : QY := Q04 Q0r.tin Q0r.tout fun x => Q0r k x.1 x.2.1
noncomputable def Q0r.ctx (k : Nat) : Ctx := ⟨Try.prog, gam []⟩
theorem Q0r.gok (k : Nat) : ∀ f, QG Try.prog f ((Q0r.ctx k).Γ f) := Q0e
theorem Q0r.l0.round (k : Nat) : Q0L (Q0r.ctx k) (QP (Func.code Try.f109) [1, 1, 0, 1, 0, 0]) (.nil) Q0r.l0.T [.mask [0, 5, 10, 11], .auto 0] Q0r.l0.os (Q0r.l0.r k) := by
 intro ρ x kn ke; kernel_rfl
theorem Q0r.l0.ok (k : Nat) : StOK 0 Try.prog (.loop (QP (Func.code Try.f109) [1, 1, 0, 1, 0, 0])) (Qx Q0r.l0.T Q0r.l0.os (Q0r.l0 k k)) :=
 Q0M (C := Q0r.ctx k) (Q0r.gok k) Try.mix Q3.nil (by kernel_rfl) (by kernel_rfl) (by kernel_rfl) (Q0r.l0.round k) k
def Q0r.ann (k : Nat) : Ann := .node [] none (.nil) (.node [] none (.nil) (.node [] none (.node [] none (.nil) (.node [] none (.node [.mask [0, 5, 10, 11], .auto 0] (some (Qx Q0r.l0.T Q0r.l0.os (Q0r.l0 k k))) .nil .nil) (.nil))) (.nil)))
theorem Q0r.body (k : Nat) : Q0K (Q0r.ctx k) Try.f109 (Func.code Try.f109) (Q0r.ann k) Q0r.tin Q0r.tout (fun x K => Q0r.c k x.1 x.2.1 K) := by
 intro ρ x K; kernel_rfl
theorem Q0r.sem_ok (k : Nat) : QG Try.prog 109 (Q0r.sem k) :=
 QT (C := Q0r.ctx k) (Q0r.gok k) Try.mix (c := Func.code Try.f109) (ann := Q0r.ann k) (tin := Q0r.tin) (tout := Q0r.tout) (fun x K => Q0r.c k x.1 x.2.1 K) Try.func109 (by kernel_rfl) (by kernel_rfl) (Q3.seq Q3.nil (Q3.seq Q3.nil (Q3.seq (Q3.seq Q3.nil (Q3.block (Q3.loop (by kernel_rfl) (Q0r.l0.ok k)))) Q3.nil))) (Q0r.body k)
abbrev Q0c.τ : Type := Qgq 
def Q0c.c (k : Nat) {ρ : Type} (n : Int) (b0 : Qgv) (b1 : (List Int)) (K : Q0c.τ → Option ρ) : Option ρ :=
 (Q0r k n (8 : Int)).bind fun t0 => (QD k t0.1 (((), ((), ())), ()) b1).bind fun t1 => K ((((), ((), ())), ()), (t1.2.1, ()))
def Q0c (k : Nat) (n : Int) (b0 : Qgv) (b1 : (List Int)) : Option Q0c.τ := Q0c.c k n b0 b1 some
def Q0c.T : Q1F := ⟨[.ptr 0 [], .dat (.int .u64)], [.pair (.pair (.sfp 0 [0] 180) (.pair (.vbs 1) (.dat .unit))) (.dat .unit), .vec (.int .u8)], 1⟩
def Q0c.os : List Out := [⟨.ret, [.auto 1], ⟨[], [.pair (.pair (.sfp 0 [0] 180) (.pair (.vbs 1) (.dat .unit))) (.dat .unit), .vec (.int .u8)]⟩⟩]
def Q0c.sem (k : Nat) : QY := Q1U Q0c.T Q0c.os fun x => Q0c k x.1 x.2.1 x.2.2.1
noncomputable def Q0c.ctx (k : Nat) : Ctx := ⟨Try.prog, gam [(109, (Q0r.sem k)), (95, (QD.sem k))]⟩
theorem Q0c.gok (k : Nat) : ∀ f, QG Try.prog f ((Q0c.ctx k).Γ f) := (Qq (Q0r.sem_ok k) (Qq (QD.sem_ok k) Q0e))
def Q0c.ann (k : Nat) : Ann := .nil
theorem Q0c.body (k : Nat) : Q1S (Q0c.ctx k) Try.f81 (Func.code Try.f81) (Q0c.ann k) Q0c.T Q0c.os (fun x K => Q0c.c k x.1 x.2.1 x.2.2.1 K) := by
 intro ρ x K; kernel_rfl
theorem Q0c.sem_ok (k : Nat) : QG Try.prog 81 (Q0c.sem k) :=
 Q1c (C := Q0c.ctx k) (Q0c.gok k) Try.mix (c := Func.code Try.f81) (ann := Q0c.ann k) (T := Q0c.T) (os := Q0c.os) (fun x K => Q0c.c k x.1 x.2.1 x.2.2.1 K) Try.func81 (by kernel_rfl) (by kernel_rfl) Q3.nil (Q0c.body k) (by kernel_rfl) (by kernel_rfl) (by kernel_rfl)
abbrev Q05.τ : Type := (ByteArray × Unit)
def Q05.c (k : Nat) {ρ : Type} (b0 : Qgv) (b1 : (List Int)) (K : Q05.τ → Option ρ) : Option ρ :=
 bif (Nat.ble (List.length b1) 9223372036854775807) then (K ((bytesOf b1), ())) else (none)
def Q05 (k : Nat) (b0 : Qgv) (b1 : (List Int)) : Option Q05.τ := Q05.c k b0 b1 some
def Q05.T : Q1F := ⟨[.ptr 0 []], [.pair (.pair (.sfp 0 [0] 180) (.pair (.vbs 1) (.dat .unit))) (.dat .unit), .vec (.int .u8)], 1⟩
def Q05.os : List Out := [⟨.ret, [.freeze (.slot 0), .auto 1], ⟨[.dat .str], [.undef]⟩⟩]
def Q05.sem (k : Nat) : QY := Q1U Q05.T Q05.os fun x => Q05 k x.1 x.2.1
noncomputable def Q05.ctx (k : Nat) : Ctx := ⟨Try.prog, gam [(108, Qcv)]⟩
theorem Q05.gok (k : Nat) : ∀ f, QG Try.prog f ((Q05.ctx k).Γ f) := (Qq Bld.string Q0e)
def Q05.ann (k : Nat) : Ann := .nil
theorem Q05.body (k : Nat) : Q1S (Q05.ctx k) Try.f82 (Func.code Try.f82) (Q05.ann k) Q05.T Q05.os (fun x K => Q05.c k x.1 x.2.1 K) := by
 intro ρ x K; kernel_rfl
theorem Q05.sem_ok (k : Nat) : QG Try.prog 82 (Q05.sem k) :=
 Q1c (C := Q05.ctx k) (Q05.gok k) Try.mix (c := Func.code Try.f82) (ann := Q05.ann k) (T := Q05.T) (os := Q05.os) (fun x K => Q05.c k x.1 x.2.1 K) Try.func82 (by kernel_rfl) (by kernel_rfl) Q3.nil (Q05.body k) (by kernel_rfl) (by kernel_rfl) (by kernel_rfl)
abbrev Q07.τ : Type := (Qgu × Unit)
def Q07.c (k : Nat) {ρ : Type} (s : ByteArray) (K : Q07.τ → Option ρ) : Option ρ :=
 K ((s, ((0 : Int), ((0 : Int), ()))), ())
def Q07 (k : Nat) (s : ByteArray) : Option Q07.τ := Q07.c k s some
def Q07.T : Q1F := ⟨[.dat .str], [], 0⟩
def Q07.os : List Out := [⟨.ret, [.auto 0], ⟨[.ptr 0 []], [.dat Qgp]⟩⟩]
def Q07.sem (k : Nat) : QY := Q1U Q07.T Q07.os fun x => Q07 k x.1
noncomputable def Q07.ctx (k : Nat) : Ctx := ⟨Try.prog, gam []⟩
theorem Q07.gok (k : Nat) : ∀ f, QG Try.prog f ((Q07.ctx k).Γ f) := Q0e
def Q07.ann (k : Nat) : Ann := .nil
theorem Q07.body (k : Nat) : Q1S (Q07.ctx k) Try.f68 (Func.code Try.f68) (Q07.ann k) Q07.T Q07.os (fun x K => Q07.c k x.1 K) := by
 intro ρ x K; kernel_rfl
theorem Q07.sem_ok (k : Nat) : QG Try.prog 68 (Q07.sem k) :=
 Q1c (C := Q07.ctx k) (Q07.gok k) Try.mix (c := Func.code Try.f68) (ann := Q07.ann k) (T := Q07.T) (os := Q07.os) (fun x K => Q07.c k x.1 K) Try.func68 (by kernel_rfl) (by kernel_rfl) Q3.nil (Q07.body k) (by kernel_rfl) (by kernel_rfl) (by kernel_rfl)
abbrev Q0m.τ : Type := Qgr 
def Q0m.c (k : Nat) {ρ : Type} (b0 : Qgu) (K : Q0m.τ → Option ρ) : Option ρ :=
 let v0 : Int := b0.2.2.1
 K (v0, ((b0.1, (b0.2.1, (b0.2.2.1, ()))), ()))
def Q0m (k : Nat) (b0 : Qgu) : Option Q0m.τ := Q0m.c k b0 some
def Q0m.T : Q1F := ⟨[.ptr 0 []], [.dat Qgp], 1⟩
def Q0m.os : List Out := [⟨.ret, [.freeze (.slot 0), .auto 1], ⟨[.dat (.int .i64)], [.dat Qgp]⟩⟩]
def Q0m.sem (k : Nat) : QY := Q1U Q0m.T Q0m.os fun x => Q0m k x.1
noncomputable def Q0m.ctx (k : Nat) : Ctx := ⟨Try.prog, gam []⟩
theorem Q0m.gok (k : Nat) : ∀ f, QG Try.prog f ((Q0m.ctx k).Γ f) := Q0e
def Q0m.ann (k : Nat) : Ann := .nil
theorem Q0m.body (k : Nat) : Q1S (Q0m.ctx k) Try.f98 (Func.code Try.f98) (Q0m.ann k) Q0m.T Q0m.os (fun x K => Q0m.c k x.1 K) := by
 intro ρ x K; kernel_rfl
theorem Q0m.sem_ok (k : Nat) : QG Try.prog 98 (Q0m.sem k) :=
 Q1c (C := Q0m.ctx k) (Q0m.gok k) Try.mix (c := Func.code Try.f98) (ann := Q0m.ann k) (T := Q0m.T) (os := Q0m.os) (fun x K => Q0m.c k x.1 K) Try.func98 (by kernel_rfl) (by kernel_rfl) Q3.nil (Q0m.body k) (by kernel_rfl) (by kernel_rfl) (by kernel_rfl)
abbrev Q0p.τ : Type := Qgr 
def Q0p.c (k : Nat) {ρ : Type} (b0 : Qgu) (K : Q0p.τ → Option ρ) : Option ρ :=
 let v0 : ByteArray := b0.1
 let v1 : Int := b0.2.1
 let v2 : Int := (IntKind.wrap IntKind.i64 ((((ByteArray.size v0) : Nat) : Int) - v1))
 K (v2, ((b0.1, (b0.2.1, (b0.2.2.1, ()))), ()))
def Q0p (k : Nat) (b0 : Qgu) : Option Q0p.τ := Q0p.c k b0 some
def Q0p.T : Q1F := ⟨[.ptr 0 []], [.dat Qgp], 1⟩
def Q0p.os : List Out := [⟨.ret, [.freeze (.slot 0), .auto 1], ⟨[.dat (.int .i64)], [.dat Qgp]⟩⟩]
def Q0p.sem (k : Nat) : QY := Q1U Q0p.T Q0p.os fun x => Q0p k x.1
noncomputable def Q0p.ctx (k : Nat) : Ctx := ⟨Try.prog, gam []⟩
theorem Q0p.gok (k : Nat) : ∀ f, QG Try.prog f ((Q0p.ctx k).Γ f) := Q0e
def Q0p.ann (k : Nat) : Ann := .nil
theorem Q0p.body (k : Nat) : Q1S (Q0p.ctx k) Try.f120 (Func.code Try.f120) (Q0p.ann k) Q0p.T Q0p.os (fun x K => Q0p.c k x.1 K) := by
 intro ρ x K; kernel_rfl
theorem Q0p.sem_ok (k : Nat) : QG Try.prog 120 (Q0p.sem k) :=
 Q1c (C := Q0p.ctx k) (Q0p.gok k) Try.mix (c := Func.code Try.f120) (ann := Q0p.ann k) (T := Q0p.T) (os := Q0p.os) (fun x K => Q0p.c k x.1 K) Try.func120 (by kernel_rfl) (by kernel_rfl) Q3.nil (Q0p.body k) (by kernel_rfl) (by kernel_rfl) (by kernel_rfl)
abbrev QV.τ : Type := (ByteArray × Qgu × Unit)
def QV.c (k : Nat) {ρ : Type} (n : Int) (b0 : Qgu) (K : QV.τ → Option ρ) : Option ρ :=
 (Q0m k (b0.1, (b0.2.1, (b0.2.2.1, ())))).bind fun t0 => bif (t0.1 != (0 : Int)) then (K ((⟨(List.toArray [])⟩ : ByteArray), ((t0.2.1.1, (t0.2.1.2.1, (t0.2.1.2.2.1, ()))), ()))) else (bif (decide (n < (0 : Int))) then (K ((⟨(List.toArray [])⟩ : ByteArray), ((t0.2.1.1, (t0.2.1.2.1, ((1 : Int), ()))), ()))) else ((Q0p k (t0.2.1.1, (t0.2.1.2.1, (t0.2.1.2.2.1, ())))).bind fun t1 => bif (decide (n > t1.1)) then (K ((⟨(List.toArray [])⟩ : ByteArray), ((t1.2.1.1, (t1.2.1.2.1, ((4 : Int), ()))), ()))) else (let v2 : Int := t1.2.1.2.1
 let v3 : Int := (IntKind.wrap IntKind.i64 (v2 + n))
 let v4 : ByteArray := t1.2.1.1
 let v5 : Int := (IntKind.wrap IntKind.i64 (v3 - n))
 bif (decide (((0 : Int) ≤ v5) ∧ ((v5 ≤ v3) ∧ (v3 ≤ (((ByteArray.size v4) : Nat) : Int))))) then (K ((ByteArray.extract v4 (Int.toNat v5) (Int.toNat v3)), ((t1.2.1.1, (v3, (t1.2.1.2.2.1, ()))), ()))) else (none))))
def QV (k : Nat) (n : Int) (b0 : Qgu) : Option QV.τ := QV.c k n b0 some
def QV.T : Q1F := ⟨[.ptr 0 [], .dat (.int .i64)], [.dat Qgp], 1⟩
def QV.os : List Out := [⟨.ret, [.freeze (.slot 0), .auto 1], ⟨[.dat .str], [.dat Qgp]⟩⟩]
def QV.sem (k : Nat) : QY := Q1U QV.T QV.os fun x => QV k x.1 x.2.1
noncomputable def QV.ctx (k : Nat) : Ctx := ⟨Try.prog, gam [(98, (Q0m.sem k)), (120, (Q0p.sem k))]⟩
theorem QV.gok (k : Nat) : ∀ f, QG Try.prog f ((QV.ctx k).Γ f) := (Qq (Q0m.sem_ok k) (Qq (Q0p.sem_ok k) Q0e))
def QV.ann (k : Nat) : Ann := .nil
theorem QV.body (k : Nat) : Q1S (QV.ctx k) Try.f97 (Func.code Try.f97) (QV.ann k) QV.T QV.os (fun x K => QV.c k x.1 x.2.1 K) := by
 intro ρ x K; kernel_rfl
theorem QV.sem_ok (k : Nat) : QG Try.prog 97 (QV.sem k) :=
 Q1c (C := QV.ctx k) (QV.gok k) Try.mix (c := Func.code Try.f97) (ann := QV.ann k) (T := QV.T) (os := QV.os) (fun x K => QV.c k x.1 x.2.1 K) Try.func97 (by kernel_rfl) (by kernel_rfl) Q3.nil (QV.body k) (by kernel_rfl) (by kernel_rfl) (by kernel_rfl)
abbrev Q0l.l0.σ : Type := ByteArray × Int × Int × Int × Unit
abbrev Q0l.l0.τ : Type := (Int × Unit)
def Q0l.l0.r (k : Nat) {ρ : Type} (x : Q0l.l0.σ) (kn : Q0l.l0.σ → Option ρ) (ke : Q0l.l0.τ → Option ρ) : Option ρ :=
 bif (decide (x.2.2.2.1 < x.2.2.1)) then (bif (decide (((0 : Int) ≤ x.2.2.2.1) ∧ (x.2.2.2.1 < (((ByteArray.size x.1) : Nat) : Int)))) then (let v0 : Int := (Q1e x.1 (Int.toNat x.2.2.2.1))
 let v1 : Int := (IntKind.wrap IntKind.i64 ((8 : Int) * x.2.2.2.1))
 bif (decide ((0 : Int) ≤ v1)) then (let v2 : Int := (Q0o BinOp.or IntKind.u64 x.2.1 (Q27 IntKind.u64 (IntKind.wrap IntKind.u64 v0) v1))
 let v3 : Int := (IntKind.wrap IntKind.i64 (x.2.2.2.1 + (1 : Int)))
 kn (x.1, (v2, (x.2.2.1, (v3, ()))))) else (none)) else (none)) else (ke (x.2.1, ()))
def Q0l.l0 (k : Nat) : Nat → Q0l.l0.σ → Option Q0l.l0.τ := Q0Q (Q0l.l0.r k)
def Q0l.l0.T : StT := ⟨.dat .str :: us 2 ++ .dat (.int .u64) :: us 2 ++ .dat (.int .i64) :: .dat (.int .i64) :: us 13, []⟩
def Q0l.l0.os : List Out := [⟨(.exit 0), [.mask [3], .auto 0], ⟨us 3 ++ .dat (.int .u64) :: us 17, []⟩⟩]
def Q0l.c (k : Nat) {ρ : Type} (s : ByteArray) (K : Int × Unit → Option ρ) : Option ρ :=
 (Q0l.l0 k k (s, ((0 : Int), ((((ByteArray.size s) : Nat) : Int), ((0 : Int), ()))))).bind fun t4 => K (t4.1, ())
def Q0l (k : Nat) (s : ByteArray) : Option (Int × Unit) := Q0l.c k s some
def Q0l.tin : List Ty := [.str]
def Q0l.tout : List Ty := [(.int .u64)]
def Q0l.sem (k : Nat) : QY := Q04 Q0l.tin Q0l.tout fun x => Q0l k x.1
noncomputable def Q0l.ctx (k : Nat) : Ctx := ⟨Try.prog, gam []⟩
theorem Q0l.gok (k : Nat) : ∀ f, QG Try.prog f ((Q0l.ctx k).Γ f) := Q0e
theorem Q0l.l0.round (k : Nat) : Q0L (Q0l.ctx k) (QP (Func.code Try.f101) [1, 1, 0, 1, 0, 0]) (.nil) Q0l.l0.T [.mask [0, 3, 6, 7], .auto 0] Q0l.l0.os (Q0l.l0.r k) := by
 intro ρ x kn ke; kernel_rfl
theorem Q0l.l0.ok (k : Nat) : StOK 0 Try.prog (.loop (QP (Func.code Try.f101) [1, 1, 0, 1, 0, 0])) (Qx Q0l.l0.T Q0l.l0.os (Q0l.l0 k k)) :=
 Q0M (C := Q0l.ctx k) (Q0l.gok k) Try.mix Q3.nil (by kernel_rfl) (by kernel_rfl) (by kernel_rfl) (Q0l.l0.round k) k
def Q0l.ann (k : Nat) : Ann := .node [] none (.nil) (.node [] none (.nil) (.node [] none (.node [] none (.nil) (.node [] none (.node [] (some (Qx Q0l.l0.T Q0l.l0.os (Q0l.l0 k k))) .nil .nil) (.nil))) (.nil)))
theorem Q0l.body (k : Nat) : Q0K (Q0l.ctx k) Try.f101 (Func.code Try.f101) (Q0l.ann k) Q0l.tin Q0l.tout (fun x K => Q0l.c k x.1 K) := by
 intro ρ x K; kernel_rfl
theorem Q0l.sem_ok (k : Nat) : QG Try.prog 101 (Q0l.sem k) :=
 QT (C := Q0l.ctx k) (Q0l.gok k) Try.mix (c := Func.code Try.f101) (ann := Q0l.ann k) (tin := Q0l.tin) (tout := Q0l.tout) (fun x K => Q0l.c k x.1 K) Try.func101 (by kernel_rfl) (by kernel_rfl) (Q3.seq Q3.nil (Q3.seq Q3.nil (Q3.seq (Q3.seq Q3.nil (Q3.block (Q3.loop (by kernel_rfl) (Q0l.l0.ok k)))) Q3.nil))) (Q0l.body k)
abbrev Q03.τ : Type := Qgr 
def Q03.c (k : Nat) {ρ : Type} (b0 : Qgu) (K : Q03.τ → Option ρ) : Option ρ :=
 (QV k (8 : Int) (b0.1, (b0.2.1, (b0.2.2.1, ())))).bind fun t0 => (Q0l k t0.1).bind fun t1 => K (t1.1, ((t0.2.1.1, (t0.2.1.2.1, (t0.2.1.2.2.1, ()))), ()))
def Q03 (k : Nat) (b0 : Qgu) : Option Q03.τ := Q03.c k b0 some
def Q03.T : Q1F := ⟨[.ptr 0 []], [.dat Qgp], 1⟩
def Q03.os : List Out := [⟨.ret, [.freeze (.slot 0), .auto 1], ⟨[.dat (.int .u64)], [.dat Qgp]⟩⟩]
def Q03.sem (k : Nat) : QY := Q1U Q03.T Q03.os fun x => Q03 k x.1
noncomputable def Q03.ctx (k : Nat) : Ctx := ⟨Try.prog, gam [(97, (QV.sem k)), (101, (Q0l.sem k))]⟩
theorem Q03.gok (k : Nat) : ∀ f, QG Try.prog f ((Q03.ctx k).Γ f) := (Qq (QV.sem_ok k) (Qq (Q0l.sem_ok k) Q0e))
def Q03.ann (k : Nat) : Ann := .nil
theorem Q03.body (k : Nat) : Q1S (Q03.ctx k) Try.f69 (Func.code Try.f69) (Q03.ann k) Q03.T Q03.os (fun x K => Q03.c k x.1 K) := by
 intro ρ x K; kernel_rfl
theorem Q03.sem_ok (k : Nat) : QG Try.prog 69 (Q03.sem k) :=
 Q1c (C := Q03.ctx k) (Q03.gok k) Try.mix (c := Func.code Try.f69) (ann := Q03.ann k) (T := Q03.T) (os := Q03.os) (fun x K => Q03.c k x.1 K) Try.func69 (by kernel_rfl) (by kernel_rfl) Q3.nil (Q03.body k) (by kernel_rfl) (by kernel_rfl) (by kernel_rfl)
def Q1a.c (k : Nat) {ρ : Type} (header : ByteArray) (nonce : Int) (K : Qgx × Int × Unit → Option ρ) : Option ρ :=
 bif ((((ByteArray.size header) : Nat) : Int) != (80 : Int)) then (K (((0 : Int), ((0 : Int), ())), ((1 : Int), ()))) else ((Q0s k ).bind fun t0 => (QD k header (((), ((), ())), ()) t0.2.1).bind fun t1 => (Q0c k nonce (((), ((), ())), ()) t1.2.1).bind fun t2 => (Q05 k (((), ((), ())), ()) t2.2.1).bind fun t3 => (Q18 k t3.1).bind fun t4 => let v5 : ByteArray := (bytesOf (List.take 32 (List.drop 0 t4.1)))
 (Q07 k v5).bind fun t6 => (Q03 k (t6.1.1, (t6.1.2.1, (t6.1.2.2.1, ())))).bind fun t7 => (Q03 k (t7.2.1.1, (t7.2.1.2.1, (t7.2.1.2.2.1, ())))).bind fun t8 => K ((t7.1, (t8.1, ())), ((0 : Int), ())))
def Q1a (k : Nat) (header : ByteArray) (nonce : Int) : Option (Qgx × Int × Unit) := Q1a.c k header nonce some
def Q1a.tin : List Ty := [.str, (.int .u64)]
def Q1a.tout : List Ty := [Qgs, (.int .i64)]
def Q1a.sem (k : Nat) : QY := Q04 Q1a.tin Q1a.tout fun x => Q1a k x.1 x.2.1
noncomputable def Q1a.ctx (k : Nat) : Ctx := ⟨Try.prog, gam [(76, (Q0s.sem k)), (95, (QD.sem k)), (81, (Q0c.sem k)), (82, (Q05.sem k)), (96, (Q18.sem k)), (68, (Q07.sem k)), (69, (Q03.sem k))]⟩
theorem Q1a.gok (k : Nat) : ∀ f, QG Try.prog f ((Q1a.ctx k).Γ f) := (Qq (Q0s.sem_ok k) (Qq (QD.sem_ok k) (Qq (Q0c.sem_ok k) (Qq (Q05.sem_ok k) (Qq (Q18.sem_ok k) (Qq (Q07.sem_ok k) (Qq (Q03.sem_ok k) Q0e)))))))
def Q1a.ann (k : Nat) : Ann := .nil
theorem Q1a.body (k : Nat) : Q0K (Q1a.ctx k) Try.f55 (Func.code Try.f55) (Q1a.ann k) Q1a.tin Q1a.tout (fun x K => Q1a.c k x.1 x.2.1 K) := by
 intro ρ x K; kernel_rfl
theorem Q1a.sem_ok (k : Nat) : QG Try.prog 55 (Q1a.sem k) :=
 QT (C := Q1a.ctx k) (Q1a.gok k) Try.mix (c := Func.code Try.f55) (ann := Q1a.ann k) (tin := Q1a.tin) (tout := Q1a.tout) (fun x K => Q1a.c k x.1 x.2.1 K) Try.func55 (by kernel_rfl) (by kernel_rfl) Q3.nil (Q1a.body k)
abbrev Q1i.τ : Type := (Qgt × Unit)
def Q1i.c (k : Nat) {ρ : Type} (k_0 : Qgx) (K : Q1i.τ → Option ρ) : Option ρ :=
 let v0 : Int := k_0.1
 let v1 : Int := (Q0o BinOp.xor IntKind.u64 v0 (8317987319222330741 : Int))
 let v2 : Int := k_0.2.1
 let v3 : Int := (Q0o BinOp.xor IntKind.u64 v2 (7237128888997146477 : Int))
 let v4 : Int := k_0.1
 let v5 : Int := (Q0o BinOp.xor IntKind.u64 v4 (7816392313619706465 : Int))
 let v6 : Int := k_0.2.1
 let v7 : Int := (Q0o BinOp.xor IntKind.u64 v6 (8387220255154660723 : Int))
 let v8 : (List Int) := (List.set (List.set (List.set (List.set (List.replicate 4 (0 : Int)) 0 v1) 1 v3) 2 v5) 3 v7)
 K ((v8, ((⟨(List.toArray [])⟩ : ByteArray), ((0 : Int), ()))), ())
def Q1i (k : Nat) (k_0 : Qgx) : Option Q1i.τ := Q1i.c k k_0 some
def Q1i.T : Q1F := ⟨[.dat Qgs], [], 0⟩
def Q1i.os : List Out := [⟨.ret, [.auto 0], ⟨[.ptr 0 []], [.dat Qgo]⟩⟩]
def Q1i.sem (k : Nat) : QY := Q1U Q1i.T Q1i.os fun x => Q1i k x.1
noncomputable def Q1i.ctx (k : Nat) : Ctx := ⟨Try.prog, gam []⟩
theorem Q1i.gok (k : Nat) : ∀ f, QG Try.prog f ((Q1i.ctx k).Γ f) := Q0e
def Q1i.ann (k : Nat) : Ann := .nil
theorem Q1i.body (k : Nat) : Q1S (Q1i.ctx k) Try.f25 (Func.code Try.f25) (Q1i.ann k) Q1i.T Q1i.os (fun x K => Q1i.c k x.1 K) := by
 intro ρ x K; kernel_rfl
theorem Q1i.sem_ok (k : Nat) : QG Try.prog 25 (Q1i.sem k) :=
 Q1c (C := Q1i.ctx k) (Q1i.gok k) Try.mix (c := Func.code Try.f25) (ann := Q1i.ann k) (T := Q1i.T) (os := Q1i.os) (fun x K => Q1i.c k x.1 K) Try.func25 (by kernel_rfl) (by kernel_rfl) Q3.nil (Q1i.body k) (by kernel_rfl) (by kernel_rfl) (by kernel_rfl)
def QF.c (k : Nat) {ρ : Type} (x_0 : Int) (k_1 : Int) (K : Int × Unit → Option ρ) : Option ρ :=
 let v0 : Int := (Q0o BinOp.and IntKind.u64 (IntKind.wrap IntKind.u64 k_1) (63 : Int))
 bif (decide ((0 : Int) ≤ v0)) then (let v1 : Int := (IntKind.wrap IntKind.u64 ((64 : Int) - v0))
 bif (decide ((0 : Int) ≤ v1)) then (let v2 : Int := (Q0o BinOp.or IntKind.u64 (Q27 IntKind.u64 x_0 v0) (Q1W IntKind.u64 x_0 v1))
 K (v2, ())) else (none)) else (none)
def QF (k : Nat) (x_0 : Int) (k_1 : Int) : Option (Int × Unit) := QF.c k x_0 k_1 some
def QF.tin : List Ty := [(.int .u64), (.int .i64)]
def QF.tout : List Ty := [(.int .u64)]
def QF.sem (k : Nat) : QY := Q04 QF.tin QF.tout fun x => QF k x.1 x.2.1
noncomputable def QF.ctx (k : Nat) : Ctx := ⟨Try.prog, gam []⟩
theorem QF.gok (k : Nat) : ∀ f, QG Try.prog f ((QF.ctx k).Γ f) := Q0e
def QF.ann (k : Nat) : Ann := .nil
theorem QF.body (k : Nat) : Q0K (QF.ctx k) Try.f62 (Func.code Try.f62) (QF.ann k) QF.tin QF.tout (fun x K => QF.c k x.1 x.2.1 K) := by
 intro ρ x K; kernel_rfl
theorem QF.sem_ok (k : Nat) : QG Try.prog 62 (QF.sem k) :=
 QT (C := QF.ctx k) (QF.gok k) Try.mix (c := Func.code Try.f62) (ann := QF.ann k) (tin := QF.tin) (tout := QF.tout) (fun x K => QF.c k x.1 x.2.1 K) Try.func62 (by kernel_rfl) (by kernel_rfl) Q3.nil (QF.body k)
def Q0P.c (k : Nat) {ρ : Type} (v : (List Int)) (K : (List Int) × Unit → Option ρ) : Option ρ :=
 let v0 : Int := (List.getD v 0 (0 : Int))
 let v1 : Int := (List.getD v 1 (0 : Int))
 let v2 : Int := (IntKind.wrap IntKind.u64 (v0 + v1))
 let v3 : Int := (List.getD (List.set v 0 v2) 1 (0 : Int))
 (QF k v3 (13 : Int)).bind fun t4 => let v5 : Int := (List.getD (List.set v 0 v2) 0 (0 : Int))
 let v6 : Int := (Q0o BinOp.xor IntKind.u64 t4.1 v5)
 let v7 : Int := (List.getD (List.set (List.set v 0 v2) 1 v6) 0 (0 : Int))
 (QF k v7 (32 : Int)).bind fun t8 => let v9 : Int := (List.getD (List.set (List.set (List.set v 0 v2) 1 v6) 0 t8.1) 2 (0 : Int))
 let v10 : Int := (List.getD (List.set (List.set (List.set v 0 v2) 1 v6) 0 t8.1) 3 (0 : Int))
 let v11 : Int := (IntKind.wrap IntKind.u64 (v9 + v10))
 let v12 : Int := (List.getD (List.set (List.set (List.set (List.set v 0 v2) 1 v6) 0 t8.1) 2 v11) 3 (0 : Int))
 (QF k v12 (16 : Int)).bind fun t13 => let v14 : Int := (List.getD (List.set (List.set (List.set (List.set v 0 v2) 1 v6) 0 t8.1) 2 v11) 2 (0 : Int))
 let v15 : Int := (Q0o BinOp.xor IntKind.u64 t13.1 v14)
 let v16 : Int := (List.getD (List.set (List.set (List.set (List.set (List.set v 0 v2) 1 v6) 0 t8.1) 2 v11) 3 v15) 0 (0 : Int))
 let v17 : Int := (List.getD (List.set (List.set (List.set (List.set (List.set v 0 v2) 1 v6) 0 t8.1) 2 v11) 3 v15) 3 (0 : Int))
 let v18 : Int := (IntKind.wrap IntKind.u64 (v16 + v17))
 let v19 : Int := (List.getD (List.set (List.set (List.set (List.set (List.set (List.set v 0 v2) 1 v6) 0 t8.1) 2 v11) 3 v15) 0 v18) 3 (0 : Int))
 (QF k v19 (21 : Int)).bind fun t20 => let v21 : Int := (List.getD (List.set (List.set (List.set (List.set (List.set (List.set v 0 v2) 1 v6) 0 t8.1) 2 v11) 3 v15) 0 v18) 0 (0 : Int))
 let v22 : Int := (Q0o BinOp.xor IntKind.u64 t20.1 v21)
 let v23 : Int := (List.getD (List.set (List.set (List.set (List.set (List.set (List.set (List.set v 0 v2) 1 v6) 0 t8.1) 2 v11) 3 v15) 0 v18) 3 v22) 2 (0 : Int))
 let v24 : Int := (List.getD (List.set (List.set (List.set (List.set (List.set (List.set (List.set v 0 v2) 1 v6) 0 t8.1) 2 v11) 3 v15) 0 v18) 3 v22) 1 (0 : Int))
 let v25 : Int := (IntKind.wrap IntKind.u64 (v23 + v24))
 let v26 : Int := (List.getD (List.set (List.set (List.set (List.set (List.set (List.set (List.set (List.set v 0 v2) 1 v6) 0 t8.1) 2 v11) 3 v15) 0 v18) 3 v22) 2 v25) 1 (0 : Int))
 (QF k v26 (17 : Int)).bind fun t27 => let v28 : Int := (List.getD (List.set (List.set (List.set (List.set (List.set (List.set (List.set (List.set v 0 v2) 1 v6) 0 t8.1) 2 v11) 3 v15) 0 v18) 3 v22) 2 v25) 2 (0 : Int))
 let v29 : Int := (Q0o BinOp.xor IntKind.u64 t27.1 v28)
 let v30 : Int := (List.getD (List.set (List.set (List.set (List.set (List.set (List.set (List.set (List.set (List.set v 0 v2) 1 v6) 0 t8.1) 2 v11) 3 v15) 0 v18) 3 v22) 2 v25) 1 v29) 2 (0 : Int))
 (QF k v30 (32 : Int)).bind fun t31 => let v32 : (List Int) := (List.set (List.set (List.set (List.set (List.set (List.set (List.set (List.set (List.set (List.set v 0 v2) 1 v6) 0 t8.1) 2 v11) 3 v15) 0 v18) 3 v22) 2 v25) 1 v29) 2 t31.1)
 K (v32, ())
def Q0P (k : Nat) (v : (List Int)) : Option QgB := Q0P.c k v some
def Q0P.tin : List Ty := [Qgy]
def Q0P.tout : List Ty := [Qgy]
def Q0P.sem (k : Nat) : QY := Q04 Q0P.tin Q0P.tout fun x => Q0P k x.1
noncomputable def Q0P.ctx (k : Nat) : Ctx := ⟨Try.prog, gam [(62, (QF.sem k))]⟩
theorem Q0P.gok (k : Nat) : ∀ f, QG Try.prog f ((Q0P.ctx k).Γ f) := (Qq (QF.sem_ok k) Q0e)
def Q0P.ann (k : Nat) : Ann := .nil
theorem Q0P.body (k : Nat) : Q0K (Q0P.ctx k) Try.f17 (Func.code Try.f17) (Q0P.ann k) Q0P.tin Q0P.tout (fun x K => Q0P.c k x.1 K) := by
 intro ρ x K; kernel_rfl
theorem Q0P.sem_ok (k : Nat) : QG Try.prog 17 (Q0P.sem k) :=
 QT (C := Q0P.ctx k) (Q0P.gok k) Try.mix (c := Func.code Try.f17) (ann := Q0P.ann k) (tin := Q0P.tin) (tout := Q0P.tout) (fun x K => Q0P.c k x.1 K) Try.func17 (by kernel_rfl) (by kernel_rfl) Q3.nil (Q0P.body k)
def Q0T.c (k : Nat) {ρ : Type} (v : (List Int)) (s : ByteArray) (K : (List Int) × Unit → Option ρ) : Option ρ :=
 (Q07 k s).bind fun t0 => (Q03 k (t0.1.1, (t0.1.2.1, (t0.1.2.2.1, ())))).bind fun t1 => let v2 : Int := (List.getD v 3 (0 : Int))
 let v3 : Int := (Q0o BinOp.xor IntKind.u64 v2 t1.1)
 (Q0P k (List.set v 3 v3)).bind fun t4 => (Q0P k t4.1).bind fun t5 => let v6 : Int := (List.getD t5.1 0 (0 : Int))
 let v7 : Int := (Q0o BinOp.xor IntKind.u64 v6 t1.1)
 let v8 : (List Int) := (List.set t5.1 0 v7)
 K (v8, ())
def Q0T (k : Nat) (v : (List Int)) (s : ByteArray) : Option QgB := Q0T.c k v s some
def Q0T.tin : List Ty := [Qgy, .str]
def Q0T.tout : List Ty := [Qgy]
def Q0T.sem (k : Nat) : QY := Q04 Q0T.tin Q0T.tout fun x => Q0T k x.1 x.2.1
noncomputable def Q0T.ctx (k : Nat) : Ctx := ⟨Try.prog, gam [(68, (Q07.sem k)), (69, (Q03.sem k)), (17, (Q0P.sem k))]⟩
theorem Q0T.gok (k : Nat) : ∀ f, QG Try.prog f ((Q0T.ctx k).Γ f) := (Qq (Q07.sem_ok k) (Qq (Q03.sem_ok k) (Qq (Q0P.sem_ok k) Q0e)))
def Q0T.ann (k : Nat) : Ann := .nil
theorem Q0T.body (k : Nat) : Q0K (Q0T.ctx k) Try.f73 (Func.code Try.f73) (Q0T.ann k) Q0T.tin Q0T.tout (fun x K => Q0T.c k x.1 x.2.1 K) := by
 intro ρ x K; kernel_rfl
theorem Q0T.sem_ok (k : Nat) : QG Try.prog 73 (Q0T.sem k) :=
 QT (C := Q0T.ctx k) (Q0T.gok k) Try.mix (c := Func.code Try.f73) (ann := Q0T.ann k) (tin := Q0T.tin) (tout := Q0T.tout) (fun x K => Q0T.c k x.1 x.2.1 K) Try.func73 (by kernel_rfl) (by kernel_rfl) Q3.nil (Q0T.body k)
def Q0F.c (k : Nat) {ρ : Type} (s : ByteArray) (K : ByteArray × Unit → Option ρ) : Option ρ :=
 (stringslite_Clone k s).bind fun t0 => K (t0.1, ())
def Q0F (k : Nat) (s : ByteArray) : Option (ByteArray × Unit) := Q0F.c k s some
def Q0F.tin : List Ty := [.str]
def Q0F.tout : List Ty := [.str]
def Q0F.sem (k : Nat) : QY := Q04 Q0F.tin Q0F.tout fun x => Q0F k x.1
noncomputable def Q0F.ctx (k : Nat) : Ctx := ⟨Try.prog, gam [(102, (stringslite_Clone.sem k))]⟩
theorem Q0F.gok (k : Nat) : ∀ f, QG Try.prog f ((Q0F.ctx k).Γ f) := (Qq (stringslite_Clone.sem_ok k) Q0e)
def Q0F.ann (k : Nat) : Ann := .nil
theorem Q0F.body (k : Nat) : Q0K (Q0F.ctx k) Try.f74 (Func.code Try.f74) (Q0F.ann k) Q0F.tin Q0F.tout (fun x K => Q0F.c k x.1 K) := by
 intro ρ x K; kernel_rfl
theorem Q0F.sem_ok (k : Nat) : QG Try.prog 74 (Q0F.sem k) :=
 QT (C := Q0F.ctx k) (Q0F.gok k) Try.mix (c := Func.code Try.f74) (ann := Q0F.ann k) (tin := Q0F.tin) (tout := Q0F.tout) (fun x K => Q0F.c k x.1 K) Try.func74 (by kernel_rfl) (by kernel_rfl) Q3.nil (Q0F.body k)
abbrev QI.l0.σ : Type := ByteArray × Qgt × Unit
abbrev QI.l0.τ : Type := (ByteArray × Qgt × Unit)
def QI.l0.r (k : Nat) {ρ : Type} (x : QI.l0.σ) (kn : QI.l0.σ → Option ρ) (ke : QI.l0.τ → Option ρ) : Option ρ :=
 let v4 : Int := (((ByteArray.size x.1) : Nat) : Int)
 bif (decide (v4 ≥ (8 : Int))) then (let v5 : (List Int) := x.2.1.1
 bif (decide (((0 : Int) ≤ (0 : Int)) ∧ (((0 : Int) ≤ (8 : Int)) ∧ ((8 : Int) ≤ (((ByteArray.size x.1) : Nat) : Int))))) then (let v6 : ByteArray := (ByteArray.extract x.1 0 8)
 (Q0T k v5 v6).bind fun t7 => bif (decide (((0 : Int) ≤ (8 : Int)) ∧ (((8 : Int) ≤ (((ByteArray.size x.1) : Nat) : Int)) ∧ ((((ByteArray.size x.1) : Nat) : Int) ≤ (((ByteArray.size x.1) : Nat) : Int))))) then (let v8 : ByteArray := (ByteArray.extract x.1 8 (Int.toNat (((ByteArray.size x.1) : Nat) : Int)))
 kn (v8, ((t7.1, (x.2.1.2.1, (x.2.1.2.2.1, ()))), ()))) else (none)) else (none)) else (ke (x.1, ((x.2.1.1, (x.2.1.2.1, (x.2.1.2.2.1, ()))), ())))
def QI.l0 (k : Nat) : Nat → QI.l0.σ → Option QI.l0.τ := Q0Q (QI.l0.r k)
def QI.l0.T : StT := ⟨.ptr 0 [] :: .dat .str :: us 39, [.dat Qgo]⟩
def QI.l0.os : List Out := [⟨(.exit 0), [.mask [0, 1], .auto 1], ⟨.ptr 0 [] :: .dat .str :: us 39, [.dat Qgo]⟩⟩]
abbrev QI.τ : Type := (Qgt × Unit)
def QI.c (k : Nat) {ρ : Type} (s : ByteArray) (b0 : Qgt) (K : QI.τ → Option ρ) : Option ρ :=
 let v0 : Int := b0.2.2.1
 let v1 : Int := (IntKind.wrap IntKind.i64 (v0 + (((ByteArray.size s) : Nat) : Int)))
 let v2 : ByteArray := b0.2.1
 bif (Nat.ble ((ByteArray.size v2) + (ByteArray.size s)) 9223372036854775807) then (let v3 : ByteArray := (v2 ++ s)
 (QI.l0 k k (v3, ((b0.1, (b0.2.1, (v1, ()))), ()))).bind fun t9 => (Q0F k t9.1).bind fun t10 => K ((t9.2.1.1, (t10.1, (t9.2.1.2.2.1, ()))), ())) else (none)
def QI (k : Nat) (s : ByteArray) (b0 : Qgt) : Option QI.τ := QI.c k s b0 some
def QI.T : Q1F := ⟨[.ptr 0 [], .dat .str], [.dat Qgo], 1⟩
def QI.os : List Out := [⟨.ret, [.auto 1], ⟨[], [.dat Qgo]⟩⟩]
def QI.sem (k : Nat) : QY := Q1U QI.T QI.os fun x => QI k x.1 x.2.1
noncomputable def QI.ctx (k : Nat) : Ctx := ⟨Try.prog, gam [(73, (Q0T.sem k)), (74, (Q0F.sem k))]⟩
theorem QI.gok (k : Nat) : ∀ f, QG Try.prog f ((QI.ctx k).Γ f) := (Qq (Q0T.sem_ok k) (Qq (Q0F.sem_ok k) Q0e))
theorem QI.l0.round (k : Nat) : Q0L (QI.ctx k) (QP (Func.code Try.f27) [1, 1, 1, 0, 0, 0]) (.nil) QI.l0.T [.mask [0, 1], .auto 1] QI.l0.os (QI.l0.r k) := by
 intro ρ x kn ke; kernel_rfl
theorem QI.l0.ok (k : Nat) : StOK 1 Try.prog (.loop (QP (Func.code Try.f27) [1, 1, 1, 0, 0, 0])) (Qx QI.l0.T QI.l0.os (QI.l0 k k)) :=
 Q0M (C := QI.ctx k) (QI.gok k) Try.mix Q3.nil (by kernel_rfl) (by kernel_rfl) (by kernel_rfl) (QI.l0.round k) k
def QI.ann (k : Nat) : Ann := .node [] none (.nil) (.node [] none (.nil) (.node [] none (.nil) (.node [] none (.node [] none (.node [.mask [0, 1], .auto 1] (some (Qx QI.l0.T QI.l0.os (QI.l0 k k))) .nil .nil) (.nil)) (.nil))))
theorem QI.body (k : Nat) : Q1S (QI.ctx k) Try.f27 (Func.code Try.f27) (QI.ann k) QI.T QI.os (fun x K => QI.c k x.1 x.2.1 K) := by
 intro ρ x K; kernel_rfl
theorem QI.sem_ok (k : Nat) : QG Try.prog 27 (QI.sem k) :=
 Q1c (C := QI.ctx k) (QI.gok k) Try.mix (c := Func.code Try.f27) (ann := QI.ann k) (T := QI.T) (os := QI.os) (fun x K => QI.c k x.1 x.2.1 K) Try.func27 (by kernel_rfl) (by kernel_rfl) (Q3.seq Q3.nil (Q3.seq Q3.nil (Q3.seq Q3.nil (Q3.seq (Q3.block (Q3.loop (by kernel_rfl) (QI.l0.ok k))) Q3.nil)))) (QI.body k) (by kernel_rfl) (by kernel_rfl) (by kernel_rfl)
abbrev Q0J.τ : Type := (Int × Qgt × Unit)
def Q0J.c (k : Nat) {ρ : Type} (b0 : Qgt) (K : Q0J.τ → Option ρ) : Option ρ :=
 let v0 : ByteArray := b0.2.1
 let v1 : ByteArray := b0.2.1
 let v2 : Int := (IntKind.wrap IntKind.i64 ((7 : Int) - (((ByteArray.size v1) : Nat) : Int)))
 (strings_Repeat k (⟨(List.toArray [0])⟩ : ByteArray) v2).bind fun t3 => bif (Nat.ble ((ByteArray.size v0) + (ByteArray.size t3.1)) 9223372036854775807) then (let v4 : ByteArray := (v0 ++ t3.1)
 let v5 : Int := b0.2.2.1
 let v6 : ByteArray := (bytesOf (List.set (List.replicate 1 (0 : Int)) 0 (IntKind.wrap IntKind.u8 v5)))
 bif (Nat.ble ((ByteArray.size v4) + (ByteArray.size v6)) 9223372036854775807) then (let v7 : ByteArray := (v4 ++ v6)
 let v8 : (List Int) := b0.1
 (Q0T k v8 v7).bind fun t9 => let v10 : Int := (List.getD t9.1 2 (0 : Int))
 let v11 : Int := (Q0o BinOp.xor IntKind.u64 v10 (255 : Int))
 let v12 : (List Int) := (List.set t9.1 2 v11)
 (Q0P k v12).bind fun t13 => (Q0P k t13.1).bind fun t14 => (Q0P k t14.1).bind fun t15 => (Q0P k t15.1).bind fun t16 => let v17 : Int := (List.getD t16.1 0 (0 : Int))
 let v18 : Int := (List.getD t16.1 1 (0 : Int))
 let v19 : Int := (List.getD t16.1 2 (0 : Int))
 let v20 : Int := (Q0o BinOp.xor IntKind.u64 (Q0o BinOp.xor IntKind.u64 v17 v18) v19)
 let v21 : Int := (List.getD t16.1 3 (0 : Int))
 K ((Q0o BinOp.xor IntKind.u64 v20 v21), ((b0.1, (b0.2.1, (b0.2.2.1, ()))), ()))) else (none)) else (none)
def Q0J (k : Nat) (b0 : Qgt) : Option Q0J.τ := Q0J.c k b0 some
def Q0J.T : Q1F := ⟨[.ptr 0 []], [.dat Qgo], 1⟩
def Q0J.os : List Out := [⟨.ret, [.freeze (.slot 0), .auto 1], ⟨[.dat (.int .u64)], [.dat Qgo]⟩⟩]
def Q0J.sem (k : Nat) : QY := Q1U Q0J.T Q0J.os fun x => Q0J k x.1
noncomputable def Q0J.ctx (k : Nat) : Ctx := ⟨Try.prog, gam [(75, (strings_Repeat.sem k)), (73, (Q0T.sem k)), (17, (Q0P.sem k))]⟩
theorem Q0J.gok (k : Nat) : ∀ f, QG Try.prog f ((Q0J.ctx k).Γ f) := (Qq (strings_Repeat.sem_ok k) (Qq (Q0T.sem_ok k) (Qq (Q0P.sem_ok k) Q0e)))
def Q0J.ann (k : Nat) : Ann := .nil
theorem Q0J.body (k : Nat) : Q1S (Q0J.ctx k) Try.f29 (Func.code Try.f29) (Q0J.ann k) Q0J.T Q0J.os (fun x K => Q0J.c k x.1 K) := by
 intro ρ x K; kernel_rfl
theorem Q0J.sem_ok (k : Nat) : QG Try.prog 29 (Q0J.sem k) :=
 Q1c (C := Q0J.ctx k) (Q0J.gok k) Try.mix (c := Func.code Try.f29) (ann := Q0J.ann k) (T := Q0J.T) (os := Q0J.os) (fun x K => Q0J.c k x.1 K) Try.func29 (by kernel_rfl) (by kernel_rfl) Q3.nil (Q0J.body k) (by kernel_rfl) (by kernel_rfl) (by kernel_rfl)
def Q14.c (k : Nat) {ρ : Type} (k_0 : Qgx) (s : ByteArray) (K : Int × Unit → Option ρ) : Option ρ :=
 (Q1i k (k_0.1, (k_0.2.1, ()))).bind fun t0 => (QI k s (t0.1.1, (t0.1.2.1, (t0.1.2.2.1, ())))).bind fun t1 => (Q0J k (t1.1.1, (t1.1.2.1, (t1.1.2.2.1, ())))).bind fun t2 => K (t2.1, ())
def Q14 (k : Nat) (k_0 : Qgx) (s : ByteArray) : Option (Int × Unit) := Q14.c k k_0 s some
def Q14.tin : List Ty := [Qgs, .str]
def Q14.tout : List Ty := [(.int .u64)]
def Q14.sem (k : Nat) : QY := Q04 Q14.tin Q14.tout fun x => Q14 k x.1 x.2.1
noncomputable def Q14.ctx (k : Nat) : Ctx := ⟨Try.prog, gam [(25, (Q1i.sem k)), (27, (QI.sem k)), (29, (Q0J.sem k))]⟩
theorem Q14.gok (k : Nat) : ∀ f, QG Try.prog f ((Q14.ctx k).Γ f) := (Qq (Q1i.sem_ok k) (Qq (QI.sem_ok k) (Qq (Q0J.sem_ok k) Q0e)))
def Q14.ann (k : Nat) : Ann := .nil
theorem Q14.body (k : Nat) : Q0K (Q14.ctx k) Try.f15 (Func.code Try.f15) (Q14.ann k) Q14.tin Q14.tout (fun x K => Q14.c k x.1 x.2.1 K) := by
 intro ρ x K; kernel_rfl
theorem Q14.sem_ok (k : Nat) : QG Try.prog 15 (Q14.sem k) :=
 QT (C := Q14.ctx k) (Q14.gok k) Try.mix (c := Func.code Try.f15) (ann := Q14.ann k) (tin := Q14.tin) (tout := Q14.tout) (fun x K => Q14.c k x.1 x.2.1 K) Try.func15 (by kernel_rfl) (by kernel_rfl) Q3.nil (Q14.body k)
def Q0g.c (k : Nat) {ρ : Type}  (K : Bool × Unit → Option ρ) : Option ρ :=
 (Q14 k ((506097522914230528 : Int), ((1084818905618843912 : Int), ())) (⟨(List.toArray [])⟩ : ByteArray)).bind fun t0 => K ((t0.1 == (8246050544436514353 : Int)), ())
def Q0g (k : Nat)  : Option (Bool × Unit) := Q0g.c k  some
def Q0g.tin : List Ty := []
def Q0g.tout : List Ty := [.bool]
def Q0g.sem (k : Nat) : QY := Q04 Q0g.tin Q0g.tout fun x => Q0g k 
noncomputable def Q0g.ctx (k : Nat) : Ctx := ⟨Try.prog, gam [(15, (Q14.sem k))]⟩
theorem Q0g.gok (k : Nat) : ∀ f, QG Try.prog f ((Q0g.ctx k).Γ f) := (Qq (Q14.sem_ok k) Q0e)
def Q0g.ann (k : Nat) : Ann := .nil
theorem Q0g.body (k : Nat) : Q0K (Q0g.ctx k) Try.f14 (Func.code Try.f14) (Q0g.ann k) Q0g.tin Q0g.tout (fun x K => Q0g.c k  K) := by
 intro ρ x K; kernel_rfl
theorem Q0g.sem_ok (k : Nat) : QG Try.prog 14 (Q0g.sem k) :=
 QT (C := Q0g.ctx k) (Q0g.gok k) Try.mix (c := Func.code Try.f14) (ann := Q0g.ann k) (tin := Q0g.tin) (tout := Q0g.tout) (fun x K => Q0g.c k  K) Try.func14 (by kernel_rfl) (by kernel_rfl) Q3.nil (Q0g.body k)
abbrev Qp.l0.σ : Type := Int × Int × ByteArray × Int × Unit
abbrev Qp.l0.τ : Type := (ByteArray × Unit)
def Qp.l0.r (k : Nat) {ρ : Type} (x : Qp.l0.σ) (kn : Qp.l0.σ → Option ρ) (ke : Qp.l0.τ → Option ρ) : Option ρ :=
 bif (decide (x.2.2.2.1 < x.2.1)) then (let v0 : Int := (Int.tmod x.1 (256 : Int))
 let v1 : ByteArray := (bytesOf (List.set (List.replicate 1 (0 : Int)) 0 (IntKind.wrap IntKind.u8 v0)))
 bif (Nat.ble ((ByteArray.size x.2.2.1) + (ByteArray.size v1)) 9223372036854775807) then (let v2 : ByteArray := (x.2.2.1 ++ v1)
 let v3 : Int := (IntKind.wrap IntKind.u64 (Int.tdiv x.1 (256 : Int)))
 let v4 : Int := (IntKind.wrap IntKind.i64 (x.2.2.2.1 + (1 : Int)))
 kn (v3, (x.2.1, (v2, (v4, ()))))) else (none)) else (ke (x.2.2.1, ()))
def Qp.l0 (k : Nat) : Nat → Qp.l0.σ → Option Qp.l0.τ := Q0Q (Qp.l0.r k)
def Qp.l0.T : StT := ⟨.dat (.int .u64) :: .dat (.int .i64) :: us 3 ++ .dat .str :: .dat (.int .i64) :: us 15, []⟩
def Qp.l0.os : List Out := [⟨(.exit 0), [.mask [5], .auto 0], ⟨us 5 ++ .dat .str :: us 16, []⟩⟩]
def Qp.c (k : Nat) {ρ : Type} (n : Int) (bytes : Int) (K : ByteArray × Unit → Option ρ) : Option ρ :=
 (Qp.l0 k k (n, (bytes, ((⟨(List.toArray [])⟩ : ByteArray), ((0 : Int), ()))))).bind fun t5 => K (t5.1, ())
def Qp (k : Nat) (n : Int) (bytes : Int) : Option (ByteArray × Unit) := Qp.c k n bytes some
def Qp.tin : List Ty := [(.int .u64), (.int .i64)]
def Qp.tout : List Ty := [.str]
def Qp.sem (k : Nat) : QY := Q04 Qp.tin Qp.tout fun x => Qp k x.1 x.2.1
noncomputable def Qp.ctx (k : Nat) : Ctx := ⟨Try.prog, gam []⟩
theorem Qp.gok (k : Nat) : ∀ f, QG Try.prog f ((Qp.ctx k).Γ f) := Q0e
theorem Qp.l0.round (k : Nat) : Q0L (Qp.ctx k) (QP (Func.code Try.f60) [1, 1, 0, 1, 0, 0]) (.nil) Qp.l0.T [.mask [0, 1, 5, 6], .auto 0] Qp.l0.os (Qp.l0.r k) := by
 intro ρ x kn ke; kernel_rfl
theorem Qp.l0.ok (k : Nat) : StOK 0 Try.prog (.loop (QP (Func.code Try.f60) [1, 1, 0, 1, 0, 0])) (Qx Qp.l0.T Qp.l0.os (Qp.l0 k k)) :=
 Q0M (C := Qp.ctx k) (Qp.gok k) Try.mix Q3.nil (by kernel_rfl) (by kernel_rfl) (by kernel_rfl) (Qp.l0.round k) k
def Qp.ann (k : Nat) : Ann := .node [] none (.nil) (.node [] none (.nil) (.node [] none (.node [] none (.nil) (.node [] none (.node [] (some (Qx Qp.l0.T Qp.l0.os (Qp.l0 k k))) .nil .nil) (.nil))) (.nil)))
theorem Qp.body (k : Nat) : Q0K (Qp.ctx k) Try.f60 (Func.code Try.f60) (Qp.ann k) Qp.tin Qp.tout (fun x K => Qp.c k x.1 x.2.1 K) := by
 intro ρ x K; kernel_rfl
theorem Qp.sem_ok (k : Nat) : QG Try.prog 60 (Qp.sem k) :=
 QT (C := Qp.ctx k) (Qp.gok k) Try.mix (c := Func.code Try.f60) (ann := Qp.ann k) (tin := Qp.tin) (tout := Qp.tout) (fun x K => Qp.c k x.1 x.2.1 K) Try.func60 (by kernel_rfl) (by kernel_rfl) (Q3.seq Q3.nil (Q3.seq Q3.nil (Q3.seq (Q3.seq Q3.nil (Q3.block (Q3.loop (by kernel_rfl) (Qp.l0.ok k)))) Q3.nil))) (Qp.body k)
abbrev Qe.l0.σ : Type := Int × (List Int) × Unit
abbrev Qe.l0.τ : Type := (Int × (List Int) × Unit)
def Qe.l0.r (k : Nat) {ρ : Type} (x : Qe.l0.σ) (kn : Qe.l0.σ → Option ρ) (ke : Qe.l0.τ → Option ρ) : Option ρ :=
 let v0 : Int := (((List.length x.2.1) : Nat) : Int)
 let v1 : Int := (IntKind.wrap IntKind.u64 (x.1 + (IntKind.wrap IntKind.u64 v0)))
 bif ((Int.tmod v1 (64 : Int)) != (56 : Int)) then (bif (Nat.ble (((List.length x.2.1) + 1) * 1) 140737488355328) then (kn (x.1, ((x.2.1 ++ (List.set (List.replicate 1 (0 : Int)) 0 (0 : Int))), ()))) else (none)) else (ke (x.1, (x.2.1, ())))
def Qe.l0 (k : Nat) : Nat → Qe.l0.σ → Option Qe.l0.τ := Q0Q (Qe.l0.r k)
def Qe.l0.T : StT := ⟨.dat (.int .u64) :: us 2 ++ .vsl 0 :: us 29, [.vec (.int .u8)]⟩
def Qe.l0.os : List Out := [⟨(.exit 0), [.mask [0, 3], .auto 0], ⟨.dat (.int .u64) :: us 2 ++ .vsl 0 :: us 29, [.vec (.int .u8)]⟩⟩]
abbrev Qe.l1.σ : Type := Int × Int × (List Int) × Unit
abbrev Qe.l1.τ : Type := QgB 
def Qe.l1.r (k : Nat) {ρ : Type} (x : Qe.l1.σ) (kn : Qe.l1.σ → Option ρ) (ke : Qe.l1.τ → Option ρ) : Option ρ :=
 bif (decide (x.2.1 ≥ (0 : Int))) then (let v4 : Int := (IntKind.wrap IntKind.i64 ((8 : Int) * x.2.1))
 bif (decide ((0 : Int) ≤ v4)) then (let v5 : Int := (Q1W IntKind.u64 x.1 v4)
 bif (Nat.ble (((List.length x.2.2.1) + (List.length (List.set (List.replicate 1 (0 : Int)) 0 (IntKind.wrap IntKind.u8 v5)))) * 1) 140737488355328) then (let v6 : Int := (IntKind.wrap IntKind.i64 (x.2.1 - (1 : Int)))
 kn (x.1, (v6, ((x.2.2.1 ++ (List.set (List.replicate 1 (0 : Int)) 0 (IntKind.wrap IntKind.u8 v5))), ())))) else (none)) else (none)) else (ke (x.2.2.1, ()))
def Qe.l1 (k : Nat) : Nat → Qe.l1.σ → Option Qe.l1.τ := Q0Q (Qe.l1.r k)
def Qe.l1.T : StT := ⟨us 3 ++ .vsl 0 :: .dat (.int .u64) :: .dat (.int .i64) :: us 27, [.vec (.int .u8)]⟩
def Qe.l1.os : List Out := [⟨(.exit 2), [.mask [3], .auto 0], ⟨us 3 ++ .vsl 0 :: us 29, [.vec (.int .u8)]⟩⟩]
def Qe.c (k : Nat) {ρ : Type} (n : Int) (K : ByteArray × Unit → Option ρ) : Option ρ :=
 (Qe.l0 k k (n, ((List.set (List.replicate 1 (0 : Int)) 0 (128 : Int)), ()))).bind fun t2 => let v3 : Int := (IntKind.wrap IntKind.u64 ((8 : Int) * t2.1))
 (Qe.l1 k k (v3, ((7 : Int), (t2.2.1, ())))).bind fun t7 => K ((bytesOf t7.1), ())
def Qe (k : Nat) (n : Int) : Option (ByteArray × Unit) := Qe.c k n some
def Qe.tin : List Ty := [(.int .u64)]
def Qe.tout : List Ty := [.str]
def Qe.sem (k : Nat) : QY := Q04 Qe.tin Qe.tout fun x => Qe k x.1
noncomputable def Qe.ctx (k : Nat) : Ctx := ⟨Try.prog, gam []⟩
theorem Qe.gok (k : Nat) : ∀ f, QG Try.prog f ((Qe.ctx k).Γ f) := Q0e
theorem Qe.l0.round (k : Nat) : Q0L (Qe.ctx k) (QP (Func.code Try.f113) [1, 1, 0, 0, 0]) (.nil) Qe.l0.T [.mask [0, 3], .auto 0] Qe.l0.os (Qe.l0.r k) := by
 intro ρ x kn ke; kernel_rfl
theorem Qe.l0.ok (k : Nat) : StOK 0 Try.prog (.loop (QP (Func.code Try.f113) [1, 1, 0, 0, 0])) (Qx Qe.l0.T Qe.l0.os (Qe.l0 k k)) :=
 Q0M (C := Qe.ctx k) (Qe.gok k) Try.mix Q3.nil (by kernel_rfl) (by kernel_rfl) (by kernel_rfl) (Qe.l0.round k) k
theorem Qe.l1.round (k : Nat) : Q0L (Qe.ctx k) (QP (Func.code Try.f113) [1, 1, 1, 1, 0, 1, 0, 0]) (.nil) Qe.l1.T [.mask [3, 4, 5], .auto 0] Qe.l1.os (Qe.l1.r k) := by
 intro ρ x kn ke; kernel_rfl
theorem Qe.l1.ok (k : Nat) : StOK 0 Try.prog (.loop (QP (Func.code Try.f113) [1, 1, 1, 1, 0, 1, 0, 0])) (Qx Qe.l1.T Qe.l1.os (Qe.l1 k k)) :=
 Q0M (C := Qe.ctx k) (Qe.gok k) Try.mix Q3.nil (by kernel_rfl) (by kernel_rfl) (by kernel_rfl) (Qe.l1.round k) k
def Qe.ann (k : Nat) : Ann := .node [] none (.nil) (.node [] none (.nil) (.node [] none (.node [] none (.node [.mask [0, 3], .auto 0] (some (Qx Qe.l0.T Qe.l0.os (Qe.l0 k k))) .nil .nil) (.nil)) (.node [] none (.nil) (.node [] none (.node [] none (.nil) (.node [] none (.node [.mask [3, 4, 5], .auto 0] (some (Qx Qe.l1.T Qe.l1.os (Qe.l1 k k))) .nil .nil) (.nil))) (.nil)))))
theorem Qe.body (k : Nat) : Q0K (Qe.ctx k) Try.f113 (Func.code Try.f113) (Qe.ann k) Qe.tin Qe.tout (fun x K => Qe.c k x.1 K) := by
 intro ρ x K; kernel_rfl
theorem Qe.sem_ok (k : Nat) : QG Try.prog 113 (Qe.sem k) :=
 QT (C := Qe.ctx k) (Qe.gok k) Try.mix (c := Func.code Try.f113) (ann := Qe.ann k) (tin := Qe.tin) (tout := Qe.tout) (fun x K => Qe.c k x.1 K) Try.func113 (by kernel_rfl) (by kernel_rfl) (Q3.seq Q3.nil (Q3.seq Q3.nil (Q3.seq (Q3.block (Q3.loop (by kernel_rfl) (Qe.l0.ok k))) (Q3.seq Q3.nil (Q3.seq (Q3.seq Q3.nil (Q3.block (Q3.loop (by kernel_rfl) (Qe.l1.ok k)))) Q3.nil))))) (Qe.body k)
def Q0d.c (k : Nat) {ρ : Type}  (K : (List Int) × Unit → Option ρ) : Option ρ :=
 let v0 : (List Int) := (List.set (List.set (List.set (List.set (List.set (List.set (List.set (List.set (List.replicate 8 (0 : Int)) 0 (1779033703 : Int)) 1 (3144134277 : Int)) 2 (1013904242 : Int)) 3 (2773480762 : Int)) 4 (1359893119 : Int)) 5 (2600822924 : Int)) 6 (528734635 : Int)) 7 (1541459225 : Int))
 K (v0, ())
def Q0d (k : Nat)  : Option QgB := Q0d.c k  some
def Q0d.tin : List Ty := []
def Q0d.tout : List Ty := [Qgz]
def Q0d.sem (k : Nat) : QY := Q04 Q0d.tin Q0d.tout fun x => Q0d k 
noncomputable def Q0d.ctx (k : Nat) : Ctx := ⟨Try.prog, gam []⟩
theorem Q0d.gok (k : Nat) : ∀ f, QG Try.prog f ((Q0d.ctx k).Γ f) := Q0e
def Q0d.ann (k : Nat) : Ann := .nil
theorem Q0d.body (k : Nat) : Q0K (Q0d.ctx k) Try.f114 (Func.code Try.f114) (Q0d.ann k) Q0d.tin Q0d.tout (fun x K => Q0d.c k  K) := by
 intro ρ x K; kernel_rfl
theorem Q0d.sem_ok (k : Nat) : QG Try.prog 114 (Q0d.sem k) :=
 QT (C := Q0d.ctx k) (Q0d.gok k) Try.mix (c := Func.code Try.f114) (ann := Q0d.ann k) (tin := Q0d.tin) (tout := Q0d.tout) (fun x K => Q0d.c k  K) Try.func114 (by kernel_rfl) (by kernel_rfl) Q3.nil (Q0d.body k)
def QQ.c (k : Nat) {ρ : Type}  (K : (List Int) × Unit → Option ρ) : Option ρ :=
 let v0 : (List Int) := (List.set (List.set (List.set (List.set (List.set (List.set (List.set (List.set (List.set (List.set (List.set (List.set (List.set (List.set (List.set (List.set (List.set (List.set (List.set (List.set (List.set (List.set (List.set (List.set (List.set (List.set (List.set (List.set (List.set (List.set (List.set (List.set (List.set (List.set (List.set (List.set (List.set (List.set (List.set (List.set (List.set (List.set (List.set (List.set (List.set (List.set (List.set (List.set (List.set (List.set (List.set (List.set (List.set (List.set (List.set (List.set (List.set (List.set (List.set (List.set (List.set (List.set (List.set (List.set (List.replicate 64 (0 : Int)) 0 (1116352408 : Int)) 1 (1899447441 : Int)) 2 (3049323471 : Int)) 3 (3921009573 : Int)) 4 (961987163 : Int)) 5 (1508970993 : Int)) 6 (2453635748 : Int)) 7 (2870763221 : Int)) 8 (3624381080 : Int)) 9 (310598401 : Int)) 10 (607225278 : Int)) 11 (1426881987 : Int)) 12 (1925078388 : Int)) 13 (2162078206 : Int)) 14 (2614888103 : Int)) 15 (3248222580 : Int)) 16 (3835390401 : Int)) 17 (4022224774 : Int)) 18 (264347078 : Int)) 19 (604807628 : Int)) 20 (770255983 : Int)) 21 (1249150122 : Int)) 22 (1555081692 : Int)) 23 (1996064986 : Int)) 24 (2554220882 : Int)) 25 (2821834349 : Int)) 26 (2952996808 : Int)) 27 (3210313671 : Int)) 28 (3336571891 : Int)) 29 (3584528711 : Int)) 30 (113926993 : Int)) 31 (338241895 : Int)) 32 (666307205 : Int)) 33 (773529912 : Int)) 34 (1294757372 : Int)) 35 (1396182291 : Int)) 36 (1695183700 : Int)) 37 (1986661051 : Int)) 38 (2177026350 : Int)) 39 (2456956037 : Int)) 40 (2730485921 : Int)) 41 (2820302411 : Int)) 42 (3259730800 : Int)) 43 (3345764771 : Int)) 44 (3516065817 : Int)) 45 (3600352804 : Int)) 46 (4094571909 : Int)) 47 (275423344 : Int)) 48 (430227734 : Int)) 49 (506948616 : Int)) 50 (659060556 : Int)) 51 (883997877 : Int)) 52 (958139571 : Int)) 53 (1322822218 : Int)) 54 (1537002063 : Int)) 55 (1747873779 : Int)) 56 (1955562222 : Int)) 57 (2024104815 : Int)) 58 (2227730452 : Int)) 59 (2361852424 : Int)) 60 (2428436474 : Int)) 61 (2756734187 : Int)) 62 (3204031479 : Int)) 63 (3329325298 : Int))
 K (v0, ())
def QQ (k : Nat)  : Option QgB := QQ.c k  some
def QQ.tin : List Ty := []
def QQ.tout : List Ty := [Qgw]
def QQ.sem (k : Nat) : QY := Q04 QQ.tin QQ.tout fun x => QQ k 
noncomputable def QQ.ctx (k : Nat) : Ctx := ⟨Try.prog, gam []⟩
theorem QQ.gok (k : Nat) : ∀ f, QG Try.prog f ((QQ.ctx k).Γ f) := Q0e
def QQ.ann (k : Nat) : Ann := .nil
theorem QQ.body (k : Nat) : Q0K (QQ.ctx k) Try.f126 (Func.code Try.f126) (QQ.ann k) QQ.tin QQ.tout (fun x K => QQ.c k  K) := by
 intro ρ x K; kernel_rfl
theorem QQ.sem_ok (k : Nat) : QG Try.prog 126 (QQ.sem k) :=
 QT (C := QQ.ctx k) (QQ.gok k) Try.mix (c := Func.code Try.f126) (ann := QQ.ann k) (tin := QQ.tin) (tout := QQ.tout) (fun x K => QQ.c k  K) Try.func126 (by kernel_rfl) (by kernel_rfl) Q3.nil (QQ.body k)
def QO.c (k : Nat) {ρ : Type} (n : Int) (by_1 : Int) (K : Int × Unit → Option ρ) : Option ρ :=
 bif (decide ((0 : Int) ≤ by_1)) then (let v0 : Int := (IntKind.wrap IntKind.i64 ((32 : Int) - by_1))
 bif (decide ((0 : Int) ≤ v0)) then (let v1 : Int := (Q0o BinOp.or IntKind.u32 (Q1W IntKind.u32 n by_1) (Q27 IntKind.u32 n v0))
 K (v1, ())) else (none)) else (none)
def QO (k : Nat) (n : Int) (by_1 : Int) : Option (Int × Unit) := QO.c k n by_1 some
def QO.tin : List Ty := [(.int .u32), (.int .i64)]
def QO.tout : List Ty := [(.int .u32)]
def QO.sem (k : Nat) : QY := Q04 QO.tin QO.tout fun x => QO k x.1 x.2.1
noncomputable def QO.ctx (k : Nat) : Ctx := ⟨Try.prog, gam []⟩
theorem QO.gok (k : Nat) : ∀ f, QG Try.prog f ((QO.ctx k).Γ f) := Q0e
def QO.ann (k : Nat) : Ann := .nil
theorem QO.body (k : Nat) : Q0K (QO.ctx k) Try.f127 (Func.code Try.f127) (QO.ann k) QO.tin QO.tout (fun x K => QO.c k x.1 x.2.1 K) := by
 intro ρ x K; kernel_rfl
theorem QO.sem_ok (k : Nat) : QG Try.prog 127 (QO.sem k) :=
 QT (C := QO.ctx k) (QO.gok k) Try.mix (c := Func.code Try.f127) (ann := QO.ann k) (tin := QO.tin) (tout := QO.tout) (fun x K => QO.c k x.1 x.2.1 K) Try.func127 (by kernel_rfl) (by kernel_rfl) Q3.nil (QO.body k)
abbrev Q5.l0.σ : Type := Int × (List Int) × (List Int) × (List Int) × (List Int) × (List Int) × Unit
abbrev Q5.l0.τ : Type := ((List Int) × (List Int) × (List Int) × (List Int) × Unit)
def Q5.l0.r (k : Nat) {ρ : Type} (x : Q5.l0.σ) (kn : Q5.l0.σ → Option ρ) (ke : Q5.l0.τ → Option ρ) : Option ρ :=
 bif (decide (x.1 < (64 : Int))) then (bif (decide (x.1 < (16 : Int))) then (let v2 : Int := (IntKind.wrap IntKind.i64 ((4 : Int) * x.1))
 bif (decide (((0 : Int) ≤ v2) ∧ (v2 < ((64 : Nat) : Int)))) then (let v3 : Int := (List.getD x.2.2.1 (Int.toNat v2) (0 : Int))
 let v4 : Int := (Q27 IntKind.u32 (IntKind.wrap IntKind.u32 v3) (24 : Int))
 let v5 : Int := (IntKind.wrap IntKind.i64 ((4 : Int) * x.1))
 let v6 : Int := (IntKind.wrap IntKind.i64 (v5 + (1 : Int)))
 bif (decide (((0 : Int) ≤ v6) ∧ (v6 < ((64 : Nat) : Int)))) then (let v7 : Int := (List.getD x.2.2.1 (Int.toNat v6) (0 : Int))
 let v8 : Int := (Q27 IntKind.u32 (IntKind.wrap IntKind.u32 v7) (16 : Int))
 let v9 : Int := (IntKind.wrap IntKind.i64 ((4 : Int) * x.1))
 let v10 : Int := (IntKind.wrap IntKind.i64 (v9 + (2 : Int)))
 bif (decide (((0 : Int) ≤ v10) ∧ (v10 < ((64 : Nat) : Int)))) then (let v11 : Int := (List.getD x.2.2.1 (Int.toNat v10) (0 : Int))
 let v12 : Int := (Q27 IntKind.u32 (IntKind.wrap IntKind.u32 v11) (8 : Int))
 let v13 : Int := (Q0o BinOp.or IntKind.u32 (Q0o BinOp.or IntKind.u32 v4 v8) v12)
 let v14 : Int := (IntKind.wrap IntKind.i64 ((4 : Int) * x.1))
 let v15 : Int := (IntKind.wrap IntKind.i64 (v14 + (3 : Int)))
 bif (decide (((0 : Int) ≤ v15) ∧ (v15 < ((64 : Nat) : Int)))) then (let v16 : Int := (List.getD x.2.2.1 (Int.toNat v15) (0 : Int))
 bif (decide (((0 : Int) ≤ x.1) ∧ (x.1 < ((64 : Nat) : Int)))) then (let v17 : Int := (IntKind.wrap IntKind.i64 (x.1 + (1 : Int)))
 kn (v17, (x.2.1, (x.2.2.1, (x.2.2.2.1, (x.2.2.2.2.1, ((List.set x.2.2.2.2.2.1 (Int.toNat x.1) (Q0o BinOp.or IntKind.u32 v13 (IntKind.wrap IntKind.u32 v16))), ()))))))) else (none)) else (none)) else (none)) else (none)) else (none)) else (let v18 : Int := (IntKind.wrap IntKind.i64 (x.1 - (15 : Int)))
 bif (decide (((0 : Int) ≤ v18) ∧ (v18 < ((64 : Nat) : Int)))) then (let v19 : Int := (List.getD x.2.2.2.2.2.1 (Int.toNat v18) (0 : Int))
 let v20 : Int := (IntKind.wrap IntKind.i64 (x.1 - (2 : Int)))
 bif (decide (((0 : Int) ≤ v20) ∧ (v20 < ((64 : Nat) : Int)))) then (let v21 : Int := (List.getD x.2.2.2.2.2.1 (Int.toNat v20) (0 : Int))
 (QO k v21 (17 : Int)).bind fun t22 => (QO k v21 (19 : Int)).bind fun t23 => let v24 : Int := (Q0o BinOp.xor IntKind.u32 t22.1 t23.1)
 let v25 : Int := (Q1W IntKind.u32 v21 (10 : Int))
 let v26 : Int := (IntKind.wrap IntKind.i64 (x.1 - (7 : Int)))
 bif (decide (((0 : Int) ≤ v26) ∧ (v26 < ((64 : Nat) : Int)))) then (let v27 : Int := (List.getD x.2.2.2.2.2.1 (Int.toNat v26) (0 : Int))
 let v28 : Int := (IntKind.wrap IntKind.u32 ((Q0o BinOp.xor IntKind.u32 v24 v25) + v27))
 (QO k v19 (7 : Int)).bind fun t29 => (QO k v19 (18 : Int)).bind fun t30 => let v31 : Int := (Q0o BinOp.xor IntKind.u32 t29.1 t30.1)
 let v32 : Int := (Q1W IntKind.u32 v19 (3 : Int))
 let v33 : Int := (IntKind.wrap IntKind.u32 (v28 + (Q0o BinOp.xor IntKind.u32 v31 v32)))
 let v34 : Int := (IntKind.wrap IntKind.i64 (x.1 - (16 : Int)))
 bif (decide (((0 : Int) ≤ v34) ∧ (v34 < ((64 : Nat) : Int)))) then (let v35 : Int := (List.getD x.2.2.2.2.2.1 (Int.toNat v34) (0 : Int))
 let v36 : Int := (IntKind.wrap IntKind.u32 (v33 + v35))
 bif (decide (((0 : Int) ≤ x.1) ∧ (x.1 < ((64 : Nat) : Int)))) then (let v37 : Int := (IntKind.wrap IntKind.i64 (x.1 + (1 : Int)))
 kn (v37, (x.2.1, (x.2.2.1, (x.2.2.2.1, (x.2.2.2.2.1, ((List.set x.2.2.2.2.2.1 (Int.toNat x.1) v36), ()))))))) else (none)) else (none)) else (none)) else (none)) else (none))) else (ke (x.2.1, (x.2.2.2.1, (x.2.2.2.2.1, (x.2.2.2.2.2.1, ())))))
def Q5.l0 (k : Nat) : Nat → Q5.l0.σ → Option Q5.l0.τ := Q0Q (Q5.l0.r k)
def Q5.l0.T : StT := ⟨us 2 ++ .ptr 0 [] :: .ptr 1 [] :: .ptr 2 [] :: .ptr 3 [] :: .ptr 4 [] :: .dat (.int .i64) :: us 181, [.dat Qgz, .dat (.arr 64 (.int .u8)), .dat Qgz, .dat Qgw, .dat Qgw]⟩
def Q5.l0.os : List Out := [⟨(.exit 0), [.mask [2, 4, 5, 6], .auto 0], ⟨us 2 ++ .ptr 0 [] :: us 1 ++ .ptr 1 [] :: .ptr 2 [] :: .ptr 3 [] :: us 182, [.dat Qgz, .dat Qgz, .dat Qgw, .dat Qgw]⟩⟩]
abbrev Q5.l1.σ : Type := Int × (List Int) × (List Int) × (List Int) × (List Int) × (List Int) × Unit
abbrev Q5.l1.τ : Type := ((List Int) × (List Int) × (List Int) × Unit)
def Q5.l1.r (k : Nat) {ρ : Type} (x : Q5.l1.σ) (kn : Q5.l1.σ → Option ρ) (ke : Q5.l1.τ → Option ρ) : Option ρ :=
 bif (decide (x.1 < (64 : Int))) then (let v40 : Int := (List.getD x.2.2.2.2.2.1 4 (0 : Int))
 let v41 : Int := (List.getD x.2.2.2.2.2.1 0 (0 : Int))
 let v42 : Int := (List.getD x.2.2.2.2.2.1 7 (0 : Int))
 (QO k v40 (6 : Int)).bind fun t43 => (QO k v40 (11 : Int)).bind fun t44 => let v45 : Int := (Q0o BinOp.xor IntKind.u32 t43.1 t44.1)
 (QO k v40 (25 : Int)).bind fun t46 => let v47 : Int := (Q0o BinOp.xor IntKind.u32 v45 t46.1)
 let v48 : Int := (IntKind.wrap IntKind.u32 (v42 + v47))
 let v49 : Int := (List.getD x.2.2.2.2.2.1 5 (0 : Int))
 let v50 : Int := (IntKind.wrap IntKind.u32 ((4294967295 : Int) - v40))
 let v51 : Int := (List.getD x.2.2.2.2.2.1 6 (0 : Int))
 let v52 : Int := (Q0o BinOp.xor IntKind.u32 (Q0o BinOp.and IntKind.u32 v40 v49) (Q0o BinOp.and IntKind.u32 v50 v51))
 let v53 : Int := (IntKind.wrap IntKind.u32 (v48 + v52))
 bif (decide (((0 : Int) ≤ x.1) ∧ (x.1 < ((64 : Nat) : Int)))) then (let v54 : Int := (List.getD x.2.2.2.1 (Int.toNat x.1) (0 : Int))
 let v55 : Int := (IntKind.wrap IntKind.u32 (v53 + v54))
 bif (decide (((0 : Int) ≤ x.1) ∧ (x.1 < ((64 : Nat) : Int)))) then (let v56 : Int := (List.getD x.2.2.2.2.1 (Int.toNat x.1) (0 : Int))
 let v57 : Int := (IntKind.wrap IntKind.u32 (v55 + v56))
 (QO k v41 (2 : Int)).bind fun t58 => (QO k v41 (13 : Int)).bind fun t59 => let v60 : Int := (Q0o BinOp.xor IntKind.u32 t58.1 t59.1)
 (QO k v41 (22 : Int)).bind fun t61 => let v62 : Int := (Q0o BinOp.xor IntKind.u32 v60 t61.1)
 let v63 : Int := (List.getD x.2.2.2.2.2.1 1 (0 : Int))
 let v64 : Int := (List.getD x.2.2.2.2.2.1 2 (0 : Int))
 let v65 : Int := (Q0o BinOp.xor IntKind.u32 (Q0o BinOp.and IntKind.u32 v41 v63) (Q0o BinOp.and IntKind.u32 v41 v64))
 let v66 : Int := (List.getD x.2.2.2.2.2.1 1 (0 : Int))
 let v67 : Int := (List.getD x.2.2.2.2.2.1 2 (0 : Int))
 let v68 : Int := (Q0o BinOp.xor IntKind.u32 v65 (Q0o BinOp.and IntKind.u32 v66 v67))
 let v69 : Int := (IntKind.wrap IntKind.u32 (v62 + v68))
 let v70 : Int := (IntKind.wrap IntKind.u32 (v57 + v69))
 let v71 : Int := (List.getD x.2.2.2.2.2.1 0 (0 : Int))
 let v72 : Int := (List.getD x.2.2.2.2.2.1 1 (0 : Int))
 let v73 : Int := (List.getD x.2.2.2.2.2.1 2 (0 : Int))
 let v74 : Int := (List.getD x.2.2.2.2.2.1 3 (0 : Int))
 let v75 : Int := (IntKind.wrap IntKind.u32 (v74 + v57))
 let v76 : Int := (List.getD x.2.2.2.2.2.1 4 (0 : Int))
 let v77 : Int := (List.getD x.2.2.2.2.2.1 5 (0 : Int))
 let v78 : Int := (List.getD x.2.2.2.2.2.1 6 (0 : Int))
 let v79 : (List Int) := (List.set (List.set (List.set (List.set (List.set (List.set (List.set (List.set (List.replicate 8 (0 : Int)) 0 v70) 1 v71) 2 v72) 3 v73) 4 v75) 5 v76) 6 v77) 7 v78)
 let v80 : Int := (IntKind.wrap IntKind.i64 (x.1 + (1 : Int)))
 kn (v80, (x.2.1, (x.2.2.1, (x.2.2.2.1, (x.2.2.2.2.1, (v79, ()))))))) else (none)) else (none)) else (ke (x.2.1, (x.2.2.1, (x.2.2.2.2.2.1, ()))))
def Q5.l1 (k : Nat) : Nat → Q5.l1.σ → Option Q5.l1.τ := Q0Q (Q5.l1.r k)
def Q5.l1.T : StT := ⟨us 2 ++ .ptr 0 [] :: us 1 ++ .ptr 1 [] :: .ptr 2 [] :: .ptr 3 [] :: us 3 ++ .ptr 4 [] :: .dat (.int .i64) :: us 177, [.dat Qgz, .dat Qgz, .dat Qgw, .dat Qgw, .dat Qgz]⟩
def Q5.l1.os : List Out := [⟨(.exit 2), [.mask [2, 4, 10], .auto 0], ⟨us 2 ++ .ptr 0 [] :: us 1 ++ .ptr 1 [] :: us 5 ++ .ptr 2 [] :: us 178, [.dat Qgz, .dat Qgz, .dat Qgz]⟩⟩]
abbrev Q5.l2.σ : Type := Int × (List Int) × (List Int) × (List Int) × Unit
abbrev Q5.l2.τ : Type := ((List Int) × (List Int) × Unit)
def Q5.l2.r (k : Nat) {ρ : Type} (x : Q5.l2.σ) (kn : Q5.l2.σ → Option ρ) (ke : Q5.l2.τ → Option ρ) : Option ρ :=
 bif (decide (x.1 < (8 : Int))) then (bif (decide (((0 : Int) ≤ x.1) ∧ (x.1 < ((8 : Nat) : Int)))) then (let v82 : Int := (List.getD x.2.1 (Int.toNat x.1) (0 : Int))
 bif (decide (((0 : Int) ≤ x.1) ∧ (x.1 < ((8 : Nat) : Int)))) then (let v83 : Int := (List.getD x.2.2.2.1 (Int.toNat x.1) (0 : Int))
 let v84 : Int := (IntKind.wrap IntKind.u32 (v82 + v83))
 bif (decide (((0 : Int) ≤ x.1) ∧ (x.1 < ((8 : Nat) : Int)))) then (let v85 : Int := (IntKind.wrap IntKind.i64 (x.1 + (1 : Int)))
 kn (v85, ((List.set x.2.1 (Int.toNat x.1) v84), (x.2.2.1, (x.2.2.2.1, ()))))) else (none)) else (none)) else (none)) else (ke (x.2.1, (x.2.2.1, ())))
def Q5.l2 (k : Nat) : Nat → Q5.l2.σ → Option Q5.l2.τ := Q0Q (Q5.l2.r k)
def Q5.l2.T : StT := ⟨us 2 ++ .ptr 0 [] :: us 1 ++ .ptr 1 [] :: us 5 ++ .ptr 2 [] :: us 5 ++ .dat (.int .i64) :: us 172, [.dat Qgz, .dat Qgz, .dat Qgz]⟩
def Q5.l2.os : List Out := [⟨(.exit 4), [.mask [2, 4], .auto 0], ⟨us 2 ++ .ptr 0 [] :: us 1 ++ .ptr 1 [] :: us 184, [.dat Qgz, .dat Qgz]⟩⟩]
def Q5.c (k : Nat) {ρ : Type} (s : (List Int)) (block : (List Int)) (K : (List Int) × Unit → Option ρ) : Option ρ :=
 (QQ k ).bind fun t0 => let v1 : (List Int) := (List.replicate 64 (0 : Int))
 (Q5.l0 k k ((0 : Int), (s, (block, ((List.replicate 8 (0 : Int)), (t0.1, (v1, ()))))))).bind fun t38 => let v39 : (List Int) := t38.1
 (Q5.l1 k k ((0 : Int), (t38.1, (t38.2.1, (t38.2.2.1, (t38.2.2.2.1, (v39, ()))))))).bind fun t81 => (Q5.l2 k k ((0 : Int), (t81.1, (t81.2.1, (t81.2.2.1, ()))))).bind fun t86 => let v87 : (List Int) := t86.1
 K (v87, ())
def Q5 (k : Nat) (s : (List Int)) (block : (List Int)) : Option QgB := Q5.c k s block some
def Q5.tin : List Ty := [Qgz, (.arr 64 (.int .u8))]
def Q5.tout : List Ty := [Qgz]
def Q5.sem (k : Nat) : QY := Q04 Q5.tin Q5.tout fun x => Q5 k x.1 x.2.1
noncomputable def Q5.ctx (k : Nat) : Ctx := ⟨Try.prog, gam [(126, (QQ.sem k)), (127, (QO.sem k))]⟩
theorem Q5.gok (k : Nat) : ∀ f, QG Try.prog f ((Q5.ctx k).Γ f) := (Qq (QQ.sem_ok k) (Qq (QO.sem_ok k) Q0e))
theorem Q5.l0.round (k : Nat) : Q0L (Q5.ctx k) (QP (Func.code Try.f115) [1, 1, 1, 0, 1, 0, 0]) (.nil) Q5.l0.T [.mask [2, 3, 4, 5, 6, 7], .auto 0] Q5.l0.os (Q5.l0.r k) := by
 intro ρ x kn ke; kernel_rfl
theorem Q5.l0.ok (k : Nat) : StOK 0 Try.prog (.loop (QP (Func.code Try.f115) [1, 1, 1, 0, 1, 0, 0])) (Qx Q5.l0.T Q5.l0.os (Q5.l0 k k)) :=
 Q0M (C := Q5.ctx k) (Q5.gok k) Try.mix Q3.nil (by kernel_rfl) (by kernel_rfl) (by kernel_rfl) (Q5.l0.round k) k
theorem Q5.l1.round (k : Nat) : Q0L (Q5.ctx k) (QP (Func.code Try.f115) [1, 1, 1, 1, 1, 0, 1, 0, 0]) (.nil) Q5.l1.T [.mask [2, 4, 5, 6, 10, 11], .auto 0] Q5.l1.os (Q5.l1.r k) := by
 intro ρ x kn ke; kernel_rfl
theorem Q5.l1.ok (k : Nat) : StOK 0 Try.prog (.loop (QP (Func.code Try.f115) [1, 1, 1, 1, 1, 0, 1, 0, 0])) (Qx Q5.l1.T Q5.l1.os (Q5.l1 k k)) :=
 Q0M (C := Q5.ctx k) (Q5.gok k) Try.mix Q3.nil (by kernel_rfl) (by kernel_rfl) (by kernel_rfl) (Q5.l1.round k) k
theorem Q5.l2.round (k : Nat) : Q0L (Q5.ctx k) (QP (Func.code Try.f115) [1, 1, 1, 1, 1, 1, 0, 1, 0, 0]) (.nil) Q5.l2.T [.mask [2, 4, 10, 16], .auto 0] Q5.l2.os (Q5.l2.r k) := by
 intro ρ x kn ke; kernel_rfl
theorem Q5.l2.ok (k : Nat) : StOK 0 Try.prog (.loop (QP (Func.code Try.f115) [1, 1, 1, 1, 1, 1, 0, 1, 0, 0])) (Qx Q5.l2.T Q5.l2.os (Q5.l2 k k)) :=
 Q0M (C := Q5.ctx k) (Q5.gok k) Try.mix Q3.nil (by kernel_rfl) (by kernel_rfl) (by kernel_rfl) (Q5.l2.round k) k
def Q5.ann (k : Nat) : Ann := .node [] none (.nil) (.node [] none (.nil) (.node [] none (.nil) (.node [] none (.node [] none (.nil) (.node [] none (.node [.mask [2, 3, 4, 5, 6, 7], .auto 0] (some (Qx Q5.l0.T Q5.l0.os (Q5.l0 k k))) .nil .nil) (.nil))) (.node [] none (.nil) (.node [] none (.node [] none (.nil) (.node [] none (.node [.mask [2, 4, 5, 6, 10, 11], .auto 0] (some (Qx Q5.l1.T Q5.l1.os (Q5.l1 k k))) .nil .nil) (.nil))) (.node [] none (.node [] none (.nil) (.node [] none (.node [.mask [2, 4, 10, 16], .auto 0] (some (Qx Q5.l2.T Q5.l2.os (Q5.l2 k k))) .nil .nil) (.nil))) (.nil)))))))
theorem Q5.body (k : Nat) : Q0K (Q5.ctx k) Try.f115 (Func.code Try.f115) (Q5.ann k) Q5.tin Q5.tout (fun x K => Q5.c k x.1 x.2.1 K) := by
 intro ρ x K; kernel_rfl
theorem Q5.sem_ok (k : Nat) : QG Try.prog 115 (Q5.sem k) :=
 QT (C := Q5.ctx k) (Q5.gok k) Try.mix (c := Func.code Try.f115) (ann := Q5.ann k) (tin := Q5.tin) (tout := Q5.tout) (fun x K => Q5.c k x.1 x.2.1 K) Try.func115 (by kernel_rfl) (by kernel_rfl) (Q3.seq Q3.nil (Q3.seq Q3.nil (Q3.seq Q3.nil (Q3.seq (Q3.seq Q3.nil (Q3.block (Q3.loop (by kernel_rfl) (Q5.l0.ok k)))) (Q3.seq Q3.nil (Q3.seq (Q3.seq Q3.nil (Q3.block (Q3.loop (by kernel_rfl) (Q5.l1.ok k)))) (Q3.seq (Q3.seq Q3.nil (Q3.block (Q3.loop (by kernel_rfl) (Q5.l2.ok k)))) Q3.nil))))))) (Q5.body k)
abbrev Qb.l1.σ : Type := Int × Int × (List Int) × (List Int) × (List Int) × Unit
abbrev Qb.l1.τ : Type := (Int × (List Int) × (List Int) × (List Int) × Unit)
def Qb.l1.r (k : Nat) {ρ : Type} (x : Qb.l1.σ) (kn : Qb.l1.σ → Option ρ) (ke : Qb.l1.τ → Option ρ) : Option ρ :=
 bif (decide (x.2.1 < (4 : Int))) then (let v1 : Int := (IntKind.wrap IntKind.i64 ((4 : Int) * x.1))
 let v2 : Int := (IntKind.wrap IntKind.i64 (v1 + x.2.1))
 bif (decide (((0 : Int) ≤ x.1) ∧ (x.1 < ((8 : Nat) : Int)))) then (let v3 : Int := (List.getD x.2.2.1 (Int.toNat x.1) (0 : Int))
 let v4 : Int := (IntKind.wrap IntKind.i64 ((8 : Int) * x.2.1))
 let v5 : Int := (IntKind.wrap IntKind.i64 ((24 : Int) - v4))
 bif (decide ((0 : Int) ≤ v5)) then (bif (decide (((0 : Int) ≤ v2) ∧ (v2 < ((32 : Nat) : Int)))) then (let v6 : Int := (IntKind.wrap IntKind.i64 (x.2.1 + (1 : Int)))
 kn (x.1, (v6, (x.2.2.1, (x.2.2.2.1, ((List.set x.2.2.2.2.1 (Int.toNat v2) (IntKind.wrap IntKind.u8 (Q1W IntKind.u32 v3 v5))), ())))))) else (none)) else (none)) else (none)) else (ke (x.1, (x.2.2.1, (x.2.2.2.1, (x.2.2.2.2.1, ())))))
def Qb.l1 (k : Nat) : Nat → Qb.l1.σ → Option Qb.l1.τ := Q0Q (Qb.l1.r k)
def Qb.l1.T : StT := ⟨us 1 ++ .ptr 0 [] :: .ptr 1 [] :: .ptr 2 [] :: .dat (.int .i64) :: .dat (.int .i64) :: us 23, [.dat Qgz, .dat QgA, .dat QgA]⟩
def Qb.l1.os : List Out := [⟨(.exit 2), [.mask [1, 2, 3, 4], .auto 0], ⟨us 1 ++ .ptr 0 [] :: .ptr 1 [] :: .ptr 2 [] :: .dat (.int .i64) :: us 24, [.dat Qgz, .dat QgA, .dat QgA]⟩⟩]
abbrev Qb.l0.σ : Type := Int × (List Int) × (List Int) × (List Int) × Unit
abbrev Qb.l0.τ : Type := ((List Int) × (List Int) × Unit)
def Qb.l0.r (k : Nat) {ρ : Type} (x : Qb.l0.σ) (kn : Qb.l0.σ → Option ρ) (ke : Qb.l0.τ → Option ρ) : Option ρ :=
 bif (decide (x.1 < (8 : Int))) then ((Qb.l1 k k (x.1, ((0 : Int), (x.2.1, (x.2.2.1, (x.2.2.2.1, ())))))).bind fun t7 => let v8 : Int := (IntKind.wrap IntKind.i64 (t7.1 + (1 : Int)))
 kn (v8, (t7.2.1, (t7.2.2.1, (t7.2.2.2.1, ()))))) else (ke (x.2.2.1, (x.2.2.2.1, ())))
def Qb.l0 (k : Nat) : Nat → Qb.l0.σ → Option Qb.l0.τ := Q0Q (Qb.l0.r k)
def Qb.l0.T : StT := ⟨us 1 ++ .ptr 0 [] :: .ptr 1 [] :: .ptr 2 [] :: .dat (.int .i64) :: us 24, [.dat Qgz, .dat QgA, .dat QgA]⟩
def Qb.l0.os : List Out := [⟨(.exit 0), [.mask [2, 3], .auto 0], ⟨us 2 ++ .ptr 0 [] :: .ptr 1 [] :: us 25, [.dat QgA, .dat QgA]⟩⟩]
def Qb.c (k : Nat) {ρ : Type} (x_0 : (List Int)) (K : (List Int) × Unit → Option ρ) : Option ρ :=
 let v0 : (List Int) := (List.replicate 32 (0 : Int))
 (Qb.l0 k k ((0 : Int), (x_0, ((List.replicate 32 (0 : Int)), (v0, ()))))).bind fun t9 => let v10 : (List Int) := t9.2.1
 K (v10, ())
def Qb (k : Nat) (x_0 : (List Int)) : Option QgB := Qb.c k x_0 some
def Qb.tin : List Ty := [Qgz]
def Qb.tout : List Ty := [QgA]
def Qb.sem (k : Nat) : QY := Q04 Qb.tin Qb.tout fun x => Qb k x.1
noncomputable def Qb.ctx (k : Nat) : Ctx := ⟨Try.prog, gam []⟩
theorem Qb.gok (k : Nat) : ∀ f, QG Try.prog f ((Qb.ctx k).Γ f) := Q0e
theorem Qb.l1.round (k : Nat) : Q0L (Qb.ctx k) (QP (Func.code Try.f116) [1, 1, 0, 1, 0, 0, 1, 0, 0, 1, 0, 0]) (.nil) Qb.l1.T [.mask [1, 2, 3, 4, 5], .auto 0] Qb.l1.os (Qb.l1.r k) := by
 intro ρ x kn ke; kernel_rfl
theorem Qb.l1.ok (k : Nat) : StOK 0 Try.prog (.loop (QP (Func.code Try.f116) [1, 1, 0, 1, 0, 0, 1, 0, 0, 1, 0, 0])) (Qx Qb.l1.T Qb.l1.os (Qb.l1 k k)) :=
 Q0M (C := Qb.ctx k) (Qb.gok k) Try.mix Q3.nil (by kernel_rfl) (by kernel_rfl) (by kernel_rfl) (Qb.l1.round k) k
theorem Qb.l0.round (k : Nat) : Q0L (Qb.ctx k) (QP (Func.code Try.f116) [1, 1, 0, 1, 0, 0]) (.node [] none (.nil) (.node [] none (.node [] none (.node [] none (.nil) (.node [] none (.node [.mask [1, 2, 3, 4, 5], .auto 0] (some (Qx Qb.l1.T Qb.l1.os (Qb.l1 k k))) .nil .nil) (.nil))) (.nil)) (.nil))) Qb.l0.T [.mask [1, 2, 3, 4], .auto 0] Qb.l0.os (Qb.l0.r k) := by
 intro ρ x kn ke; kernel_rfl
theorem Qb.l0.ok (k : Nat) : StOK 0 Try.prog (.loop (QP (Func.code Try.f116) [1, 1, 0, 1, 0, 0])) (Qx Qb.l0.T Qb.l0.os (Qb.l0 k k)) :=
 Q0M (C := Qb.ctx k) (Qb.gok k) Try.mix (Q3.seq Q3.nil (Q3.seq (Q3.block (Q3.seq Q3.nil (Q3.block (Q3.loop (by kernel_rfl) (Qb.l1.ok k))))) Q3.nil)) (by kernel_rfl) (by kernel_rfl) (by kernel_rfl) (Qb.l0.round k) k
def Qb.ann (k : Nat) : Ann := .node [] none (.nil) (.node [] none (.nil) (.node [] none (.node [] none (.nil) (.node [] none (.node [.mask [1, 2, 3, 4], .auto 0] (some (Qx Qb.l0.T Qb.l0.os (Qb.l0 k k))) .nil .nil) (.nil))) (.nil)))
theorem Qb.body (k : Nat) : Q0K (Qb.ctx k) Try.f116 (Func.code Try.f116) (Qb.ann k) Qb.tin Qb.tout (fun x K => Qb.c k x.1 K) := by
 intro ρ x K; kernel_rfl
theorem Qb.sem_ok (k : Nat) : QG Try.prog 116 (Qb.sem k) :=
 QT (C := Qb.ctx k) (Qb.gok k) Try.mix (c := Func.code Try.f116) (ann := Qb.ann k) (tin := Qb.tin) (tout := Qb.tout) (fun x K => Qb.c k x.1 K) Try.func116 (by kernel_rfl) (by kernel_rfl) (Q3.seq Q3.nil (Q3.seq Q3.nil (Q3.seq (Q3.seq Q3.nil (Q3.block (Q3.loop (by kernel_rfl) (Qb.l0.ok k)))) Q3.nil))) (Qb.body k)
abbrev Qd.l1.σ : Type := ByteArray × Int × Int × (List Int) × (List Int) × (List Int) × Unit
abbrev Qd.l1.τ : Type := (ByteArray × Int × (List Int) × (List Int) × (List Int) × Unit)
def Qd.l1.r (k : Nat) {ρ : Type} (x : Qd.l1.σ) (kn : Qd.l1.σ → Option ρ) (ke : Qd.l1.τ → Option ρ) : Option ρ :=
 bif (decide (x.2.2.1 < (64 : Int))) then (let v5 : Int := (IntKind.wrap IntKind.i64 (x.2.1 + x.2.2.1))
 bif (decide (((0 : Int) ≤ v5) ∧ (v5 < (((ByteArray.size x.1) : Nat) : Int)))) then (let v6 : Int := (Q1e x.1 (Int.toNat v5))
 bif (decide (((0 : Int) ≤ x.2.2.1) ∧ (x.2.2.1 < ((64 : Nat) : Int)))) then (let v7 : Int := (IntKind.wrap IntKind.i64 (x.2.2.1 + (1 : Int)))
 kn (x.1, (x.2.1, (v7, (x.2.2.2.1, (x.2.2.2.2.1, ((List.set x.2.2.2.2.2.1 (Int.toNat x.2.2.1) v6), ()))))))) else (none)) else (none)) else (ke (x.1, (x.2.1, (x.2.2.2.1, (x.2.2.2.2.1, (x.2.2.2.2.2.1, ()))))))
def Qd.l1 (k : Nat) : Nat → Qd.l1.σ → Option Qd.l1.τ := Q0Q (Qd.l1.r k)
def Qd.l1.T : StT := ⟨.dat .str :: us 1 ++ .ptr 0 [] :: .ptr 1 [] :: .dat (.int .i64) :: .ptr 2 [] :: .dat (.int .i64) :: us 30, [.dat QgA, .dat Qgz, .dat (.arr 64 (.int .u8))]⟩
def Qd.l1.os : List Out := [⟨(.exit 2), [.mask [0, 2, 3, 4, 5], .auto 0], ⟨.dat .str :: us 1 ++ .ptr 0 [] :: .ptr 1 [] :: .dat (.int .i64) :: .ptr 2 [] :: us 31, [.dat QgA, .dat Qgz, .dat (.arr 64 (.int .u8))]⟩⟩]
abbrev Qd.l0.σ : Type := ByteArray × Int × (List Int) × (List Int) × Unit
abbrev Qd.l0.τ : Type := ((List Int) × (List Int) × Unit)
def Qd.l0.r (k : Nat) {ρ : Type} (x : Qd.l0.σ) (kn : Qd.l0.σ → Option ρ) (ke : Qd.l0.τ → Option ρ) : Option ρ :=
 let v3 : Int := (((ByteArray.size x.1) : Nat) : Int)
 bif (decide (x.2.1 < v3)) then (let v4 : (List Int) := (List.replicate 64 (0 : Int))
 (Qd.l1 k k (x.1, (x.2.1, ((0 : Int), (x.2.2.1, (x.2.2.2.1, (v4, ()))))))).bind fun t8 => let v9 : (List Int) := t8.2.2.2.1
 let v10 : (List Int) := t8.2.2.2.2.1
 (Q5 k v9 v10).bind fun t11 => let v12 : Int := (IntKind.wrap IntKind.i64 (t8.2.1 + (64 : Int)))
 kn (t8.1, (v12, (t8.2.2.1, (t11.1, ()))))) else (ke (x.2.2.1, (x.2.2.2.1, ())))
def Qd.l0 (k : Nat) : Nat → Qd.l0.σ → Option Qd.l0.τ := Q0Q (Qd.l0.r k)
def Qd.l0.T : StT := ⟨.dat .str :: us 1 ++ .ptr 0 [] :: .ptr 1 [] :: .dat (.int .i64) :: us 32, [.dat QgA, .dat Qgz]⟩
def Qd.l0.os : List Out := [⟨(.exit 0), [.mask [2, 3], .auto 0], ⟨us 2 ++ .ptr 0 [] :: .ptr 1 [] :: us 33, [.dat QgA, .dat Qgz]⟩⟩]
def Qd.c (k : Nat) {ρ : Type} (s : ByteArray) (K : (List Int) × Unit → Option ρ) : Option ρ :=
 (Qe k (IntKind.wrap IntKind.u64 (((ByteArray.size s) : Nat) : Int))).bind fun t0 => bif (Nat.ble ((ByteArray.size s) + (ByteArray.size t0.1)) 9223372036854775807) then (let v1 : ByteArray := (s ++ t0.1)
 (Q0d k ).bind fun t2 => (Qd.l0 k k (v1, ((0 : Int), ((List.replicate 32 (0 : Int)), (t2.1, ()))))).bind fun t13 => let v14 : (List Int) := t13.2.1
 (Qb k v14).bind fun t15 => K (t15.1, ())) else (none)
def Qd (k : Nat) (s : ByteArray) : Option QgB := Qd.c k s some
def Qd.tin : List Ty := [.str]
def Qd.tout : List Ty := [QgA]
def Qd.sem (k : Nat) : QY := Q04 Qd.tin Qd.tout fun x => Qd k x.1
noncomputable def Qd.ctx (k : Nat) : Ctx := ⟨Try.prog, gam [(113, (Qe.sem k)), (114, (Q0d.sem k)), (115, (Q5.sem k)), (116, (Qb.sem k))]⟩
theorem Qd.gok (k : Nat) : ∀ f, QG Try.prog f ((Qd.ctx k).Γ f) := (Qq (Qe.sem_ok k) (Qq (Q0d.sem_ok k) (Qq (Q5.sem_ok k) (Qq (Qb.sem_ok k) Q0e))))
theorem Qd.l1.round (k : Nat) : Q0L (Qd.ctx k) (QP (Func.code Try.f94) [1, 1, 1, 0, 1, 0, 0, 1, 0, 0, 1, 0, 1, 0, 0]) (.nil) Qd.l1.T [.mask [0, 2, 3, 4, 5, 6], .auto 0] Qd.l1.os (Qd.l1.r k) := by
 intro ρ x kn ke; kernel_rfl
theorem Qd.l1.ok (k : Nat) : StOK 0 Try.prog (.loop (QP (Func.code Try.f94) [1, 1, 1, 0, 1, 0, 0, 1, 0, 0, 1, 0, 1, 0, 0])) (Qx Qd.l1.T Qd.l1.os (Qd.l1 k k)) :=
 Q0M (C := Qd.ctx k) (Qd.gok k) Try.mix Q3.nil (by kernel_rfl) (by kernel_rfl) (by kernel_rfl) (Qd.l1.round k) k
theorem Qd.l0.round (k : Nat) : Q0L (Qd.ctx k) (QP (Func.code Try.f94) [1, 1, 1, 0, 1, 0, 0]) (.node [] none (.nil) (.node [] none (.node [] none (.node [] none (.nil) (.node [] none (.node [] none (.nil) (.node [] none (.node [.mask [0, 2, 3, 4, 5, 6], .auto 0] (some (Qx Qd.l1.T Qd.l1.os (Qd.l1 k k))) .nil .nil) (.nil))) (.nil))) (.nil)) (.nil))) Qd.l0.T [.mask [0, 2, 3, 4], .auto 0] Qd.l0.os (Qd.l0.r k) := by
 intro ρ x kn ke; kernel_rfl
theorem Qd.l0.ok (k : Nat) : StOK 0 Try.prog (.loop (QP (Func.code Try.f94) [1, 1, 1, 0, 1, 0, 0])) (Qx Qd.l0.T Qd.l0.os (Qd.l0 k k)) :=
 Q0M (C := Qd.ctx k) (Qd.gok k) Try.mix (Q3.seq Q3.nil (Q3.seq (Q3.block (Q3.seq Q3.nil (Q3.seq (Q3.seq Q3.nil (Q3.block (Q3.loop (by kernel_rfl) (Qd.l1.ok k)))) Q3.nil))) Q3.nil)) (by kernel_rfl) (by kernel_rfl) (by kernel_rfl) (Qd.l0.round k) k
def Qd.ann (k : Nat) : Ann := .node [] none (.nil) (.node [] none (.nil) (.node [] none (.nil) (.node [] none (.node [] none (.nil) (.node [] none (.node [.mask [0, 2, 3, 4], .auto 0] (some (Qx Qd.l0.T Qd.l0.os (Qd.l0 k k))) .nil .nil) (.nil))) (.nil))))
theorem Qd.body (k : Nat) : Q0K (Qd.ctx k) Try.f94 (Func.code Try.f94) (Qd.ann k) Qd.tin Qd.tout (fun x K => Qd.c k x.1 K) := by
 intro ρ x K; kernel_rfl
theorem Qd.sem_ok (k : Nat) : QG Try.prog 94 (Qd.sem k) :=
 QT (C := Qd.ctx k) (Qd.gok k) Try.mix (c := Func.code Try.f94) (ann := Qd.ann k) (tin := Qd.tin) (tout := Qd.tout) (fun x K => Qd.c k x.1 K) Try.func94 (by kernel_rfl) (by kernel_rfl) (Q3.seq Q3.nil (Q3.seq Q3.nil (Q3.seq Q3.nil (Q3.seq (Q3.seq Q3.nil (Q3.block (Q3.loop (by kernel_rfl) (Qd.l0.ok k)))) Q3.nil)))) (Qd.body k)
abbrev Ql.l0.σ : Type := ByteArray × Int × Int × Unit
abbrev Ql.l0.τ : Type := (Int × Unit)
def Ql.l0.r (k : Nat) {ρ : Type} (x : Ql.l0.σ) (kn : Ql.l0.σ → Option ρ) (ke : Ql.l0.τ → Option ρ) : Option ρ :=
 bif (decide (x.2.2.1 ≥ (0 : Int))) then (let v1 : Int := (IntKind.wrap IntKind.u64 (x.2.1 * (256 : Int)))
 bif (decide (((0 : Int) ≤ x.2.2.1) ∧ (x.2.2.1 < (((ByteArray.size x.1) : Nat) : Int)))) then (let v2 : Int := (Q1e x.1 (Int.toNat x.2.2.1))
 let v3 : Int := (IntKind.wrap IntKind.u64 (v1 + (IntKind.wrap IntKind.u64 v2)))
 let v4 : Int := (IntKind.wrap IntKind.i64 (x.2.2.1 - (1 : Int)))
 kn (x.1, (v3, (v4, ())))) else (none)) else (ke (x.2.1, ()))
def Ql.l0 (k : Nat) : Nat → Ql.l0.σ → Option Ql.l0.τ := Q0Q (Ql.l0.r k)
def Ql.l0.T : StT := ⟨.dat .str :: us 2 ++ .dat (.int .u64) :: .dat (.int .i64) :: us 15, []⟩
def Ql.l0.os : List Out := [⟨(.exit 0), [.mask [3], .auto 0], ⟨us 3 ++ .dat (.int .u64) :: us 16, []⟩⟩]
def Ql.c (k : Nat) {ρ : Type} (s : ByteArray) (K : Int × Unit → Option ρ) : Option ρ :=
 let v0 : Int := (IntKind.wrap IntKind.i64 ((((ByteArray.size s) : Nat) : Int) - (1 : Int)))
 (Ql.l0 k k (s, ((0 : Int), (v0, ())))).bind fun t5 => K (t5.1, ())
def Ql (k : Nat) (s : ByteArray) : Option (Int × Unit) := Ql.c k s some
def Ql.tin : List Ty := [.str]
def Ql.tout : List Ty := [(.int .u64)]
def Ql.sem (k : Nat) : QY := Q04 Ql.tin Ql.tout fun x => Ql k x.1
noncomputable def Ql.ctx (k : Nat) : Ctx := ⟨Try.prog, gam []⟩
theorem Ql.gok (k : Nat) : ∀ f, QG Try.prog f ((Ql.ctx k).Γ f) := Q0e
theorem Ql.l0.round (k : Nat) : Q0L (Ql.ctx k) (QP (Func.code Try.f61) [1, 1, 0, 1, 0, 0]) (.nil) Ql.l0.T [.mask [0, 3, 4], .auto 0] Ql.l0.os (Ql.l0.r k) := by
 intro ρ x kn ke; kernel_rfl
theorem Ql.l0.ok (k : Nat) : StOK 0 Try.prog (.loop (QP (Func.code Try.f61) [1, 1, 0, 1, 0, 0])) (Qx Ql.l0.T Ql.l0.os (Ql.l0 k k)) :=
 Q0M (C := Ql.ctx k) (Ql.gok k) Try.mix Q3.nil (by kernel_rfl) (by kernel_rfl) (by kernel_rfl) (Ql.l0.round k) k
def Ql.ann (k : Nat) : Ann := .node [] none (.nil) (.node [] none (.nil) (.node [] none (.node [] none (.nil) (.node [] none (.node [] (some (Qx Ql.l0.T Ql.l0.os (Ql.l0 k k))) .nil .nil) (.nil))) (.nil)))
theorem Ql.body (k : Nat) : Q0K (Ql.ctx k) Try.f61 (Func.code Try.f61) (Ql.ann k) Ql.tin Ql.tout (fun x K => Ql.c k x.1 K) := by
 intro ρ x K; kernel_rfl
theorem Ql.sem_ok (k : Nat) : QG Try.prog 61 (Ql.sem k) :=
 QT (C := Ql.ctx k) (Ql.gok k) Try.mix (c := Func.code Try.f61) (ann := Ql.ann k) (tin := Ql.tin) (tout := Ql.tout) (fun x K => Ql.c k x.1 K) Try.func61 (by kernel_rfl) (by kernel_rfl) (Q3.seq Q3.nil (Q3.seq Q3.nil (Q3.seq (Q3.seq Q3.nil (Q3.block (Q3.loop (by kernel_rfl) (Ql.l0.ok k)))) Q3.nil))) (Ql.body k)
def Q0n.c (k : Nat) {ρ : Type} (header : ByteArray) (nonce : Int) (K : Int × Int × Unit → Option ρ) : Option ρ :=
 (Qp k nonce (8 : Int)).bind fun t0 => bif (Nat.ble ((ByteArray.size header) + (ByteArray.size t0.1)) 9223372036854775807) then (let v1 : ByteArray := (header ++ t0.1)
 (Qd k v1).bind fun t2 => let v3 : ByteArray := (bytesOf (List.take 8 (List.drop 0 t2.1)))
 (Ql k v3).bind fun t4 => let v5 : ByteArray := (bytesOf (List.take 8 (List.drop 8 t2.1)))
 (Ql k v5).bind fun t6 => K (t4.1, (t6.1, ()))) else (none)
def Q0n (k : Nat) (header : ByteArray) (nonce : Int) : Option (Int × Int × Unit) := Q0n.c k header nonce some
def Q0n.tin : List Ty := [.str, (.int .u64)]
def Q0n.tout : List Ty := [(.int .u64), (.int .u64)]
def Q0n.sem (k : Nat) : QY := Q04 Q0n.tin Q0n.tout fun x => Q0n k x.1 x.2.1
noncomputable def Q0n.ctx (k : Nat) : Ctx := ⟨Try.prog, gam [(60, (Qp.sem k)), (94, (Qd.sem k)), (61, (Ql.sem k))]⟩
theorem Q0n.gok (k : Nat) : ∀ f, QG Try.prog f ((Q0n.ctx k).Γ f) := (Qq (Qp.sem_ok k) (Qq (Qd.sem_ok k) (Qq (Ql.sem_ok k) Q0e)))
def Q0n.ann (k : Nat) : Ann := .nil
theorem Q0n.body (k : Nat) : Q0K (Q0n.ctx k) Try.f56 (Func.code Try.f56) (Q0n.ann k) Q0n.tin Q0n.tout (fun x K => Q0n.c k x.1 x.2.1 K) := by
 intro ρ x K; kernel_rfl
theorem Q0n.sem_ok (k : Nat) : QG Try.prog 56 (Q0n.sem k) :=
 QT (C := Q0n.ctx k) (Q0n.gok k) Try.mix (c := Func.code Try.f56) (ann := Q0n.ann k) (tin := Q0n.tin) (tout := Q0n.tout) (fun x K => Q0n.c k x.1 x.2.1 K) Try.func56 (by kernel_rfl) (by kernel_rfl) Q3.nil (Q0n.body k)
def Q0Z.c (k : Nat) {ρ : Type} (k_0 : Qgx) (id : (List Int)) (K : Int × Unit → Option ρ) : Option ρ :=
 let v0 : ByteArray := (bytesOf (List.take 32 (List.drop 0 id)))
 (Q14 k (k_0.1, (k_0.2.1, ())) v0).bind fun t1 => let v2 : Int := (Q0o BinOp.and IntKind.u64 t1.1 (281474976710655 : Int))
 K (v2, ())
def Q0Z (k : Nat) (k_0 : Qgx) (id : (List Int)) : Option (Int × Unit) := Q0Z.c k k_0 id some
def Q0Z.tin : List Ty := [Qgs, QgA]
def Q0Z.tout : List Ty := [(.int .u64)]
def Q0Z.sem (k : Nat) : QY := Q04 Q0Z.tin Q0Z.tout fun x => Q0Z k x.1 x.2.1
noncomputable def Q0Z.ctx (k : Nat) : Ctx := ⟨Try.prog, gam [(15, (Q14.sem k))]⟩
theorem Q0Z.gok (k : Nat) : ∀ f, QG Try.prog f ((Q0Z.ctx k).Γ f) := (Qq (Q14.sem_ok k) Q0e)
def Q0Z.ann (k : Nat) : Ann := .nil
theorem Q0Z.body (k : Nat) : Q0K (Q0Z.ctx k) Try.f57 (Func.code Try.f57) (Q0Z.ann k) Q0Z.tin Q0Z.tout (fun x K => Q0Z.c k x.1 x.2.1 K) := by
 intro ρ x K; kernel_rfl
theorem Q0Z.sem_ok (k : Nat) : QG Try.prog 57 (Q0Z.sem k) :=
 QT (C := Q0Z.ctx k) (Q0Z.gok k) Try.mix (c := Func.code Try.f57) (ann := Q0Z.ann k) (tin := Q0Z.tin) (tout := Q0Z.tout) (fun x K => Q0Z.c k x.1 x.2.1 K) Try.func57 (by kernel_rfl) (by kernel_rfl) Q3.nil (Q0Z.body k)
def Q0x.c (k : Nat) {ρ : Type} (short : Int) (K : ByteArray × Int × Unit → Option ρ) : Option ρ :=
 bif (decide (short > (281474976710655 : Int))) then (K ((⟨(List.toArray [])⟩ : ByteArray), ((30 : Int), ()))) else ((Q0s k ).bind fun t0 => (Q0c k short (((), ((), ())), ()) t0.2.1).bind fun t1 => (Q05 k (((), ((), ())), ()) t1.2.1).bind fun t2 => bif (decide (((0 : Int) ≤ (0 : Int)) ∧ (((0 : Int) ≤ (6 : Int)) ∧ ((6 : Int) ≤ (((ByteArray.size t2.1) : Nat) : Int))))) then (K ((ByteArray.extract t2.1 0 6), ((0 : Int), ()))) else (none))
def Q0x (k : Nat) (short : Int) : Option (ByteArray × Int × Unit) := Q0x.c k short some
def Q0x.tin : List Ty := [(.int .u64)]
def Q0x.tout : List Ty := [.str, (.int .i64)]
def Q0x.sem (k : Nat) : QY := Q04 Q0x.tin Q0x.tout fun x => Q0x k x.1
noncomputable def Q0x.ctx (k : Nat) : Ctx := ⟨Try.prog, gam [(76, (Q0s.sem k)), (81, (Q0c.sem k)), (82, (Q05.sem k))]⟩
theorem Q0x.gok (k : Nat) : ∀ f, QG Try.prog f ((Q0x.ctx k).Γ f) := (Qq (Q0s.sem_ok k) (Qq (Q0c.sem_ok k) (Qq (Q05.sem_ok k) Q0e)))
def Q0x.ann (k : Nat) : Ann := .nil
theorem Q0x.body (k : Nat) : Q0K (Q0x.ctx k) Try.f58 (Func.code Try.f58) (Q0x.ann k) Q0x.tin Q0x.tout (fun x K => Q0x.c k x.1 K) := by
 intro ρ x K; kernel_rfl
theorem Q0x.sem_ok (k : Nat) : QG Try.prog 58 (Q0x.sem k) :=
 QT (C := Q0x.ctx k) (Q0x.gok k) Try.mix (c := Func.code Try.f58) (ann := Q0x.ann k) (tin := Q0x.tin) (tout := Q0x.tout) (fun x K => Q0x.c k x.1 K) Try.func58 (by kernel_rfl) (by kernel_rfl) Q3.nil (Q0x.body k)
abbrev QH.p0.σ : Type := ByteArray × Int × Unit
abbrev QH.p0.τ : Type := (Int × Int × Unit) ⊕ (ByteArray × Int × Unit)
def QH.p0.r (k : Nat) {ρ : Type} (x : QH.p0.σ) (K : QH.p0.τ → Option ρ) : Option ρ :=
 bif (decide (x.2.1 < (0 : Int))) then (K (.inl ((0 : Int), ((1 : Int), ())))) else (let v0 : Int := (((ByteArray.size x.1) : Nat) : Int)
 bif (decide (x.2.1 > v0)) then (K (.inl ((0 : Int), ((1 : Int), ())))) else (K (.inr (x.1, (x.2.1, ())))))
def QH.p0 (k : Nat) (x : QH.p0.σ) : Option QH.p0.τ := QH.p0.r k x some
def QH.p0.T : StT := ⟨.dat .str :: .dat (.int .i64) :: us 29, []⟩
def QH.p0.os : List Out := [⟨.ret, [.mask [4, 5], .auto 0], ⟨us 4 ++ .dat (.int .u64) :: .dat (.int .i64) :: us 25, []⟩⟩, ⟨.normal, [.mask [0, 1], .auto 0], ⟨.dat .str :: .dat (.int .i64) :: us 29, []⟩⟩]
def QH.c (k : Nat) {ρ : Type} (s : ByteArray) (at_1 : Int) (K : Int × Int × Unit → Option ρ) : Option ρ :=
 (QH.p0 k (s, (at_1, ()))).bind fun t1 => (match t1 with | .inl t2 => (K (t2.1, (t2.2.1, ()))) | .inr (t3) => (bif (decide (((0 : Int) ≤ t3.2.1) ∧ ((t3.2.1 ≤ (((ByteArray.size t3.1) : Nat) : Int)) ∧ ((((ByteArray.size t3.1) : Nat) : Int) ≤ (((ByteArray.size t3.1) : Nat) : Int))))) then (let v4 : ByteArray := (ByteArray.extract t3.1 (Int.toNat t3.2.1) (Int.toNat (((ByteArray.size t3.1) : Nat) : Int)))
 (Q07 k v4).bind fun t5 => (QV k (6 : Int) (t5.1.1, (t5.1.2.1, (t5.1.2.2.1, ())))).bind fun t6 => (Q0m k (t6.2.1.1, (t6.2.1.2.1, (t6.2.1.2.2.1, ())))).bind fun t7 => bif (t7.1 != (0 : Int)) then ((Q0m k (t7.2.1.1, (t7.2.1.2.1, (t7.2.1.2.2.1, ())))).bind fun t8 => K ((0 : Int), (t8.1, ()))) else (bif (Nat.ble ((ByteArray.size t6.1) + 2) 9223372036854775807) then (let v9 : ByteArray := (t6.1 ++ (⟨(List.toArray [0, 0])⟩ : ByteArray))
 (Q07 k v9).bind fun t10 => (Q03 k (t10.1.1, (t10.1.2.1, (t10.1.2.2.1, ())))).bind fun t11 => K (t11.1, ((0 : Int), ()))) else (none))) else (none)))
def QH (k : Nat) (s : ByteArray) (at_1 : Int) : Option (Int × Int × Unit) := QH.c k s at_1 some
def QH.tin : List Ty := [.str, (.int .i64)]
def QH.tout : List Ty := [(.int .u64), (.int .i64)]
def QH.sem (k : Nat) : QY := Q04 QH.tin QH.tout fun x => QH k x.1 x.2.1
noncomputable def QH.ctx (k : Nat) : Ctx := ⟨Try.prog, gam [(68, (Q07.sem k)), (97, (QV.sem k)), (98, (Q0m.sem k)), (69, (Q03.sem k))]⟩
theorem QH.gok (k : Nat) : ∀ f, QG Try.prog f ((QH.ctx k).Γ f) := (Qq (Q07.sem_ok k) (Qq (QV.sem_ok k) (Qq (Q0m.sem_ok k) (Qq (Q03.sem_ok k) Q0e))))
theorem QH.p0.is (k : Nat) : Q1E (QH.ctx k) (QP (Func.code Try.f59) [1, 0]) (.nil) QH.p0.T QH.p0.os (QH.p0.r k) := by
 intro ρ x K; kernel_rfl
theorem QH.p0.ok (k : Nat) : StOK 0 Try.prog (QP (Func.code Try.f59) [1, 0]) (Qx QH.p0.T QH.p0.os (QH.p0 k)) :=
 Q1r (C := QH.ctx k) (T := QH.p0.T) (os := QH.p0.os) (QH.gok k) Try.mix (fun x K => QH.p0.r k x K) Q3.nil (by kernel_rfl) (by kernel_rfl) (QH.p0.is k)
def QH.ann (k : Nat) : Ann := .node [] none (.nil) (.node [] none (.node [] (some (Qx QH.p0.T QH.p0.os (QH.p0 k))) .nil .nil) (.nil))
theorem QH.body (k : Nat) : Q0K (QH.ctx k) Try.f59 (Func.code Try.f59) (QH.ann k) QH.tin QH.tout (fun x K => QH.c k x.1 x.2.1 K) := by
 intro ρ x K; kernel_rfl
theorem QH.sem_ok (k : Nat) : QG Try.prog 59 (QH.sem k) :=
 QT (C := QH.ctx k) (QH.gok k) Try.mix (c := Func.code Try.f59) (ann := QH.ann k) (tin := QH.tin) (tout := QH.tout) (fun x K => QH.c k x.1 x.2.1 K) Try.func59 (by kernel_rfl) (by kernel_rfl) (Q3.seq Q3.nil (Q3.seq (Q3.loop (by kernel_rfl) (QH.p0.ok k)) Q3.nil)) (QH.body k)
abbrev Qv.l0.σ : Type := Int × Int × Int × Unit
abbrev Qv.l0.τ : Type := (Int × Unit)
def Qv.l0.r (k : Nat) {ρ : Type} (x : Qv.l0.σ) (kn : Qv.l0.σ → Option ρ) (ke : Qv.l0.τ → Option ρ) : Option ρ :=
 bif (decide (x.2.2.1 < x.2.1)) then (let v0 : Int := (IntKind.wrap IntKind.u64 (x.1 * (2 : Int)))
 let v1 : Int := (Q1W IntKind.u64 x.1 (63 : Int))
 let v2 : Int := (IntKind.wrap IntKind.u64 (v0 + v1))
 let v3 : Int := (IntKind.wrap IntKind.i64 (x.2.2.1 + (1 : Int)))
 kn (v2, (x.2.1, (v3, ())))) else (ke (x.1, ()))
def Qv.l0 (k : Nat) : Nat → Qv.l0.σ → Option Qv.l0.τ := Q0Q (Qv.l0.r k)
def Qv.l0.T : StT := ⟨.dat (.int .u64) :: .dat (.int .i64) :: us 3 ++ .dat (.int .i64) :: us 11, []⟩
def Qv.l0.os : List Out := [⟨(.exit 0), [.mask [0], .auto 0], ⟨.dat (.int .u64) :: us 16, []⟩⟩]
def Qv.c (k : Nat) {ρ : Type} (x_0 : Int) (n : Int) (K : Int × Unit → Option ρ) : Option ρ :=
 (Qv.l0 k k (x_0, (n, ((0 : Int), ())))).bind fun t4 => K (t4.1, ())
def Qv (k : Nat) (x_0 : Int) (n : Int) : Option (Int × Unit) := Qv.c k x_0 n some
def Qv.tin : List Ty := [(.int .u64), (.int .i64)]
def Qv.tout : List Ty := [(.int .u64)]
def Qv.sem (k : Nat) : QY := Q04 Qv.tin Qv.tout fun x => Qv k x.1 x.2.1
noncomputable def Qv.ctx (k : Nat) : Ctx := ⟨Try.prog, gam []⟩
theorem Qv.gok (k : Nat) : ∀ f, QG Try.prog f ((Qv.ctx k).Γ f) := Q0e
theorem Qv.l0.round (k : Nat) : Q0L (Qv.ctx k) (QP (Func.code Try.f63) [1, 0, 1, 0, 0]) (.nil) Qv.l0.T [.mask [0, 1, 5], .auto 0] Qv.l0.os (Qv.l0.r k) := by
 intro ρ x kn ke; kernel_rfl
theorem Qv.l0.ok (k : Nat) : StOK 0 Try.prog (.loop (QP (Func.code Try.f63) [1, 0, 1, 0, 0])) (Qx Qv.l0.T Qv.l0.os (Qv.l0 k k)) :=
 Q0M (C := Qv.ctx k) (Qv.gok k) Try.mix Q3.nil (by kernel_rfl) (by kernel_rfl) (by kernel_rfl) (Qv.l0.round k) k
def Qv.ann (k : Nat) : Ann := .node [] none (.nil) (.node [] none (.node [] none (.nil) (.node [] none (.node [] (some (Qx Qv.l0.T Qv.l0.os (Qv.l0 k k))) .nil .nil) (.nil))) (.nil))
theorem Qv.body (k : Nat) : Q0K (Qv.ctx k) Try.f63 (Func.code Try.f63) (Qv.ann k) Qv.tin Qv.tout (fun x K => Qv.c k x.1 x.2.1 K) := by
 intro ρ x K; kernel_rfl
theorem Qv.sem_ok (k : Nat) : QG Try.prog 63 (Qv.sem k) :=
 QT (C := Qv.ctx k) (Qv.gok k) Try.mix (c := Func.code Try.f63) (ann := Qv.ann k) (tin := Qv.tin) (tout := Qv.tout) (fun x K => Qv.c k x.1 x.2.1 K) Try.func63 (by kernel_rfl) (by kernel_rfl) (Q3.seq Q3.nil (Q3.seq (Q3.seq Q3.nil (Q3.block (Q3.loop (by kernel_rfl) (Qv.l0.ok k)))) Q3.nil)) (Qv.body k)
def Q01.c (k : Nat) {ρ : Type} (v : (List Int)) (K : (List Int) × Unit → Option ρ) : Option ρ :=
 let v0 : Int := (List.getD v 0 (0 : Int))
 let v1 : Int := (List.getD v 1 (0 : Int))
 let v2 : Int := (IntKind.wrap IntKind.u64 (v0 + v1))
 let v3 : Int := (List.getD (List.set v 0 v2) 1 (0 : Int))
 (Qv k v3 (13 : Int)).bind fun t4 => let v5 : Int := (List.getD (List.set v 0 v2) 0 (0 : Int))
 let v6 : Int := (Q0o BinOp.xor IntKind.u64 t4.1 v5)
 let v7 : Int := (List.getD (List.set (List.set v 0 v2) 1 v6) 0 (0 : Int))
 (Qv k v7 (32 : Int)).bind fun t8 => let v9 : Int := (List.getD (List.set (List.set (List.set v 0 v2) 1 v6) 0 t8.1) 2 (0 : Int))
 let v10 : Int := (List.getD (List.set (List.set (List.set v 0 v2) 1 v6) 0 t8.1) 3 (0 : Int))
 let v11 : Int := (IntKind.wrap IntKind.u64 (v9 + v10))
 let v12 : Int := (List.getD (List.set (List.set (List.set (List.set v 0 v2) 1 v6) 0 t8.1) 2 v11) 3 (0 : Int))
 (Qv k v12 (16 : Int)).bind fun t13 => let v14 : Int := (List.getD (List.set (List.set (List.set (List.set v 0 v2) 1 v6) 0 t8.1) 2 v11) 2 (0 : Int))
 let v15 : Int := (Q0o BinOp.xor IntKind.u64 t13.1 v14)
 let v16 : Int := (List.getD (List.set (List.set (List.set (List.set (List.set v 0 v2) 1 v6) 0 t8.1) 2 v11) 3 v15) 0 (0 : Int))
 let v17 : Int := (List.getD (List.set (List.set (List.set (List.set (List.set v 0 v2) 1 v6) 0 t8.1) 2 v11) 3 v15) 3 (0 : Int))
 let v18 : Int := (IntKind.wrap IntKind.u64 (v16 + v17))
 let v19 : Int := (List.getD (List.set (List.set (List.set (List.set (List.set (List.set v 0 v2) 1 v6) 0 t8.1) 2 v11) 3 v15) 0 v18) 3 (0 : Int))
 (Qv k v19 (21 : Int)).bind fun t20 => let v21 : Int := (List.getD (List.set (List.set (List.set (List.set (List.set (List.set v 0 v2) 1 v6) 0 t8.1) 2 v11) 3 v15) 0 v18) 0 (0 : Int))
 let v22 : Int := (Q0o BinOp.xor IntKind.u64 t20.1 v21)
 let v23 : Int := (List.getD (List.set (List.set (List.set (List.set (List.set (List.set (List.set v 0 v2) 1 v6) 0 t8.1) 2 v11) 3 v15) 0 v18) 3 v22) 2 (0 : Int))
 let v24 : Int := (List.getD (List.set (List.set (List.set (List.set (List.set (List.set (List.set v 0 v2) 1 v6) 0 t8.1) 2 v11) 3 v15) 0 v18) 3 v22) 1 (0 : Int))
 let v25 : Int := (IntKind.wrap IntKind.u64 (v23 + v24))
 let v26 : Int := (List.getD (List.set (List.set (List.set (List.set (List.set (List.set (List.set (List.set v 0 v2) 1 v6) 0 t8.1) 2 v11) 3 v15) 0 v18) 3 v22) 2 v25) 1 (0 : Int))
 (Qv k v26 (17 : Int)).bind fun t27 => let v28 : Int := (List.getD (List.set (List.set (List.set (List.set (List.set (List.set (List.set (List.set v 0 v2) 1 v6) 0 t8.1) 2 v11) 3 v15) 0 v18) 3 v22) 2 v25) 2 (0 : Int))
 let v29 : Int := (Q0o BinOp.xor IntKind.u64 t27.1 v28)
 let v30 : Int := (List.getD (List.set (List.set (List.set (List.set (List.set (List.set (List.set (List.set (List.set v 0 v2) 1 v6) 0 t8.1) 2 v11) 3 v15) 0 v18) 3 v22) 2 v25) 1 v29) 2 (0 : Int))
 (Qv k v30 (32 : Int)).bind fun t31 => let v32 : (List Int) := (List.set (List.set (List.set (List.set (List.set (List.set (List.set (List.set (List.set (List.set v 0 v2) 1 v6) 0 t8.1) 2 v11) 3 v15) 0 v18) 3 v22) 2 v25) 1 v29) 2 t31.1)
 K (v32, ())
def Q01 (k : Nat) (v : (List Int)) : Option QgB := Q01.c k v some
def Q01.tin : List Ty := [Qgy]
def Q01.tout : List Ty := [Qgy]
def Q01.sem (k : Nat) : QY := Q04 Q01.tin Q01.tout fun x => Q01 k x.1
noncomputable def Q01.ctx (k : Nat) : Ctx := ⟨Try.prog, gam [(63, (Qv.sem k))]⟩
theorem Q01.gok (k : Nat) : ∀ f, QG Try.prog f ((Q01.ctx k).Γ f) := (Qq (Qv.sem_ok k) Q0e)
def Q01.ann (k : Nat) : Ann := .nil
theorem Q01.body (k : Nat) : Q0K (Q01.ctx k) Try.f18 (Func.code Try.f18) (Q01.ann k) Q01.tin Q01.tout (fun x K => Q01.c k x.1 K) := by
 intro ρ x K; kernel_rfl
theorem Q01.sem_ok (k : Nat) : QG Try.prog 18 (Q01.sem k) :=
 QT (C := Q01.ctx k) (Q01.gok k) Try.mix (c := Func.code Try.f18) (ann := Q01.ann k) (tin := Q01.tin) (tout := Q01.tout) (fun x K => Q01.c k x.1 K) Try.func18 (by kernel_rfl) (by kernel_rfl) Q3.nil (Q01.body k)
abbrev Qg.l0.σ : Type := ByteArray × ByteArray × (List Int) × Unit
abbrev Qg.l0.τ : Type := (ByteArray × ByteArray × (List Int) × Unit)
def Qg.l0.r (k : Nat) {ρ : Type} (x : Qg.l0.σ) (kn : Qg.l0.σ → Option ρ) (ke : Qg.l0.τ → Option ρ) : Option ρ :=
 let v5 : Int := (((ByteArray.size x.2.1) : Nat) : Int)
 bif ((Int.tmod v5 (8 : Int)) != (7 : Int)) then (bif (Nat.ble ((ByteArray.size x.2.1) + 1) 9223372036854775807) then (let v6 : ByteArray := (x.2.1 ++ (⟨(List.toArray [0])⟩ : ByteArray))
 kn (x.1, (v6, (x.2.2.1, ())))) else (none)) else (ke (x.1, (x.2.1, (x.2.2.1, ()))))
def Qg.l0 (k : Nat) : Nat → Qg.l0.σ → Option Qg.l0.τ := Q0Q (Qg.l0.r k)
def Qg.l0.T : StT := ⟨us 2 ++ .dat .str :: us 4 ++ .ptr 0 [] :: .dat .str :: us 70, [.dat Qgy]⟩
def Qg.l0.os : List Out := [⟨(.exit 0), [.mask [2, 7, 8], .auto 0], ⟨us 2 ++ .dat .str :: us 4 ++ .ptr 0 [] :: .dat .str :: us 70, [.dat Qgy]⟩⟩]
abbrev Qg.l1.σ : Type := ByteArray × Int × (List Int) × Unit
abbrev Qg.l1.τ : Type := QgB 
def Qg.l1.r (k : Nat) {ρ : Type} (x : Qg.l1.σ) (kn : Qg.l1.σ → Option ρ) (ke : Qg.l1.τ → Option ρ) : Option ρ :=
 let v11 : Int := (((ByteArray.size x.1) : Nat) : Int)
 bif (decide (x.2.1 < v11)) then (let v12 : Int := (IntKind.wrap IntKind.i64 (x.2.1 + (8 : Int)))
 bif (decide (((0 : Int) ≤ x.2.1) ∧ ((x.2.1 ≤ v12) ∧ (v12 ≤ (((ByteArray.size x.1) : Nat) : Int))))) then (let v13 : ByteArray := (ByteArray.extract x.1 (Int.toNat x.2.1) (Int.toNat v12))
 (Ql k v13).bind fun t14 => let v15 : Int := (List.getD x.2.2.1 3 (0 : Int))
 let v16 : Int := (Q0o BinOp.xor IntKind.u64 v15 t14.1)
 let v17 : (List Int) := (List.set x.2.2.1 3 v16)
 (Q01 k v17).bind fun t18 => (Q01 k t18.1).bind fun t19 => let v20 : Int := (List.getD t19.1 0 (0 : Int))
 let v21 : Int := (Q0o BinOp.xor IntKind.u64 v20 t14.1)
 let v22 : Int := (IntKind.wrap IntKind.i64 (x.2.1 + (8 : Int)))
 kn (x.1, (v22, ((List.set t19.1 0 v21), ())))) else (none)) else (ke (x.2.2.1, ()))
def Qg.l1 (k : Nat) : Nat → Qg.l1.σ → Option Qg.l1.τ := Q0Q (Qg.l1.r k)
def Qg.l1.T : StT := ⟨us 7 ++ .ptr 0 [] :: .dat .str :: .dat (.int .i64) :: us 69, [.dat Qgy]⟩
def Qg.l1.os : List Out := [⟨(.exit 2), [.mask [7], .auto 0], ⟨us 7 ++ .ptr 0 [] :: us 71, [.dat Qgy]⟩⟩]
def Qg.c (k : Nat) {ρ : Type} (k0 : Int) (k1 : Int) (s : ByteArray) (K : Int × Unit → Option ρ) : Option ρ :=
 let v0 : Int := (Q0o BinOp.xor IntKind.u64 k0 (8317987319222330741 : Int))
 let v1 : Int := (Q0o BinOp.xor IntKind.u64 k1 (7237128888997146477 : Int))
 let v2 : Int := (Q0o BinOp.xor IntKind.u64 k0 (7816392313619706465 : Int))
 let v3 : Int := (Q0o BinOp.xor IntKind.u64 k1 (8387220255154660723 : Int))
 let v4 : (List Int) := (List.set (List.set (List.set (List.set (List.replicate 4 (0 : Int)) 0 v0) 1 v1) 2 v2) 3 v3)
 (Qg.l0 k k (s, (s, (v4, ())))).bind fun t7 => let v8 : Int := (((ByteArray.size t7.1) : Nat) : Int)
 let v9 : ByteArray := (bytesOf (List.set (List.replicate 1 (0 : Int)) 0 (IntKind.wrap IntKind.u8 v8)))
 bif (Nat.ble ((ByteArray.size t7.2.1) + (ByteArray.size v9)) 9223372036854775807) then (let v10 : ByteArray := (t7.2.1 ++ v9)
 (Qg.l1 k k (v10, ((0 : Int), (t7.2.2.1, ())))).bind fun t23 => let v24 : Int := (List.getD t23.1 2 (0 : Int))
 let v25 : Int := (Q0o BinOp.xor IntKind.u64 v24 (255 : Int))
 let v26 : (List Int) := (List.set t23.1 2 v25)
 (Q01 k v26).bind fun t27 => (Q01 k t27.1).bind fun t28 => (Q01 k t28.1).bind fun t29 => (Q01 k t29.1).bind fun t30 => let v31 : Int := (List.getD t30.1 0 (0 : Int))
 let v32 : Int := (List.getD t30.1 1 (0 : Int))
 let v33 : Int := (List.getD t30.1 2 (0 : Int))
 let v34 : Int := (Q0o BinOp.xor IntKind.u64 (Q0o BinOp.xor IntKind.u64 v31 v32) v33)
 let v35 : Int := (List.getD t30.1 3 (0 : Int))
 K ((Q0o BinOp.xor IntKind.u64 v34 v35), ())) else (none)
def Qg (k : Nat) (k0 : Int) (k1 : Int) (s : ByteArray) : Option (Int × Unit) := Qg.c k k0 k1 s some
def Qg.tin : List Ty := [(.int .u64), (.int .u64), .str]
def Qg.tout : List Ty := [(.int .u64)]
def Qg.sem (k : Nat) : QY := Q04 Qg.tin Qg.tout fun x => Qg k x.1 x.2.1 x.2.2.1
noncomputable def Qg.ctx (k : Nat) : Ctx := ⟨Try.prog, gam [(61, (Ql.sem k)), (18, (Q01.sem k))]⟩
theorem Qg.gok (k : Nat) : ∀ f, QG Try.prog f ((Qg.ctx k).Γ f) := (Qq (Ql.sem_ok k) (Qq (Q01.sem_ok k) Q0e))
theorem Qg.l0.round (k : Nat) : Q0L (Qg.ctx k) (QP (Func.code Try.f16) [1, 1, 1, 0, 0, 0]) (.nil) Qg.l0.T [.mask [2, 7, 8], .auto 0] Qg.l0.os (Qg.l0.r k) := by
 intro ρ x kn ke; kernel_rfl
theorem Qg.l0.ok (k : Nat) : StOK 0 Try.prog (.loop (QP (Func.code Try.f16) [1, 1, 1, 0, 0, 0])) (Qx Qg.l0.T Qg.l0.os (Qg.l0 k k)) :=
 Q0M (C := Qg.ctx k) (Qg.gok k) Try.mix Q3.nil (by kernel_rfl) (by kernel_rfl) (by kernel_rfl) (Qg.l0.round k) k
theorem Qg.l1.round (k : Nat) : Q0L (Qg.ctx k) (QP (Func.code Try.f16) [1, 1, 1, 1, 1, 0, 1, 0, 0]) (.nil) Qg.l1.T [.mask [7, 8, 9], .auto 0] Qg.l1.os (Qg.l1.r k) := by
 intro ρ x kn ke; kernel_rfl
theorem Qg.l1.ok (k : Nat) : StOK 0 Try.prog (.loop (QP (Func.code Try.f16) [1, 1, 1, 1, 1, 0, 1, 0, 0])) (Qx Qg.l1.T Qg.l1.os (Qg.l1 k k)) :=
 Q0M (C := Qg.ctx k) (Qg.gok k) Try.mix Q3.nil (by kernel_rfl) (by kernel_rfl) (by kernel_rfl) (Qg.l1.round k) k
def Qg.ann (k : Nat) : Ann := .node [] none (.nil) (.node [] none (.nil) (.node [] none (.nil) (.node [] none (.node [] none (.node [.mask [2, 7, 8], .auto 0] (some (Qx Qg.l0.T Qg.l0.os (Qg.l0 k k))) .nil .nil) (.nil)) (.node [] none (.nil) (.node [] none (.node [] none (.nil) (.node [] none (.node [.mask [7, 8, 9], .auto 0] (some (Qx Qg.l1.T Qg.l1.os (Qg.l1 k k))) .nil .nil) (.nil))) (.nil))))))
theorem Qg.body (k : Nat) : Q0K (Qg.ctx k) Try.f16 (Func.code Try.f16) (Qg.ann k) Qg.tin Qg.tout (fun x K => Qg.c k x.1 x.2.1 x.2.2.1 K) := by
 intro ρ x K; kernel_rfl
theorem Qg.sem_ok (k : Nat) : QG Try.prog 16 (Qg.sem k) :=
 QT (C := Qg.ctx k) (Qg.gok k) Try.mix (c := Func.code Try.f16) (ann := Qg.ann k) (tin := Qg.tin) (tout := Qg.tout) (fun x K => Qg.c k x.1 x.2.1 x.2.2.1 K) Try.func16 (by kernel_rfl) (by kernel_rfl) (Q3.seq Q3.nil (Q3.seq Q3.nil (Q3.seq Q3.nil (Q3.seq (Q3.block (Q3.loop (by kernel_rfl) (Qg.l0.ok k))) (Q3.seq Q3.nil (Q3.seq (Q3.seq Q3.nil (Q3.block (Q3.loop (by kernel_rfl) (Qg.l1.ok k)))) Q3.nil)))))) (Qg.body k)
def Q0f.c (k : Nat) {ρ : Type} (k0 : Int) (k1 : Int) (id : (List Int)) (K : Int × Unit → Option ρ) : Option ρ :=
 let v0 : ByteArray := (bytesOf (List.take 32 (List.drop 0 id)))
 (Qg k k0 k1 v0).bind fun t1 => let v2 : Int := (Int.tmod t1.1 (281474976710656 : Int))
 K (v2, ())
def Q0f (k : Nat) (k0 : Int) (k1 : Int) (id : (List Int)) : Option (Int × Unit) := Q0f.c k k0 k1 id some
def Q0f.tin : List Ty := [(.int .u64), (.int .u64), QgA]
def Q0f.tout : List Ty := [(.int .u64)]
def Q0f.sem (k : Nat) : QY := Q04 Q0f.tin Q0f.tout fun x => Q0f k x.1 x.2.1 x.2.2.1
noncomputable def Q0f.ctx (k : Nat) : Ctx := ⟨Try.prog, gam [(16, (Qg.sem k))]⟩
theorem Q0f.gok (k : Nat) : ∀ f, QG Try.prog f ((Q0f.ctx k).Γ f) := (Qq (Qg.sem_ok k) Q0e)
def Q0f.ann (k : Nat) : Ann := .nil
theorem Q0f.body (k : Nat) : Q0K (Q0f.ctx k) Try.f31 (Func.code Try.f31) (Q0f.ann k) Q0f.tin Q0f.tout (fun x K => Q0f.c k x.1 x.2.1 x.2.2.1 K) := by
 intro ρ x K; kernel_rfl
theorem Q0f.sem_ok (k : Nat) : QG Try.prog 31 (Q0f.sem k) :=
 QT (C := Q0f.ctx k) (Q0f.gok k) Try.mix (c := Func.code Try.f31) (ann := Q0f.ann k) (tin := Q0f.tin) (tout := Q0f.tout) (fun x K => Q0f.c k x.1 x.2.1 x.2.2.1 K) Try.func31 (by kernel_rfl) (by kernel_rfl) Q3.nil (Q0f.body k)
abbrev Q1.p0.σ : Type := ByteArray × Int × ByteArray × Int × Int × (List Int) × Qgx × Unit
abbrev Q1.p0.τ : Type := (Bool × Unit) ⊕ (ByteArray × Int × ByteArray × Int × Int × (List Int) × Qgx × Unit)
def Q1.p0.r (k : Nat) {ρ : Type} (x : Q1.p0.σ) (K : Q1.p0.τ → Option ρ) : Option ρ :=
 (Q0g k ).bind fun t7 => bif (!t7.1) then (K (.inl (false, ()))) else (let v8 : Int := (((ByteArray.size x.1) : Nat) : Int)
 bif (!((x.2.2.2.2.1 == (0 : Int)) == (v8 == (80 : Int)))) then (K (.inl (false, ()))) else (bif (x.2.2.2.2.1 != (0 : Int)) then (bif (x.2.2.2.2.1 != (1 : Int)) then (K (.inl (false, ()))) else (bif (!((x.2.2.2.2.2.2.1.1 == (0 : Int)) && ((x.2.2.2.2.2.2.1.2.1 == (0 : Int)) && true))) then (K (.inl (false, ()))) else (K (.inr (x.1, (x.2.1, (x.2.2.1, (x.2.2.2.1, (x.2.2.2.2.1, (x.2.2.2.2.2.1, ((x.2.2.2.2.2.2.1.1, (x.2.2.2.2.2.2.1.2.1, ())), ()))))))))))) else (K (.inr (x.1, (x.2.1, (x.2.2.1, (x.2.2.2.1, (x.2.2.2.2.1, (x.2.2.2.2.2.1, ((x.2.2.2.2.2.2.1.1, (x.2.2.2.2.2.2.1.2.1, ())), ())))))))))))
def Q1.p0 (k : Nat) (x : Q1.p0.σ) : Option Q1.p0.τ := Q1.p0.r k x some
def Q1.p0.T : StT := ⟨us 3 ++ .dat .str :: .dat (.int .u64) :: .ptr 0 [] :: .dat .str :: .dat (.int .i64) :: .ptr 1 [] :: .dat (.int .i64) :: us 171, [.dat QgA, .dat Qgs]⟩
def Q1.p0.os : List Out := [⟨.ret, [.mask [2], .auto 0], ⟨us 2 ++ .dat .bool :: us 178, []⟩⟩, ⟨.normal, [.mask [3, 4, 5, 6, 7, 8, 9], .auto 0], ⟨us 3 ++ .dat .str :: .dat (.int .u64) :: .ptr 0 [] :: .dat .str :: .dat (.int .i64) :: .ptr 1 [] :: .dat (.int .i64) :: us 171, [.dat QgA, .dat Qgs]⟩⟩]
abbrev Q1.p1.σ : Type := ByteArray × Int × ByteArray × Int × Int × (List Int) × Qgx × Unit
abbrev Q1.p1.τ : Type := (Bool × Unit) ⊕ (Int × ByteArray × Int × (List Int) × Qgx × Unit)
def Q1.p1.r (k : Nat) {ρ : Type} (x : Q1.p1.σ) (K : Q1.p1.τ → Option ρ) : Option ρ :=
 bif (x.2.2.2.2.1 == (0 : Int)) then ((Q0n k x.1 x.2.1).bind fun t12 => let v13 : Int := t12.1
 let v14 : Int := t12.2.1
 let v15 : Int := x.2.2.2.2.2.2.1.1
 bif (v15 != v13) then (K (.inl (false, ()))) else (let v16 : Int := x.2.2.2.2.2.2.1.2.1
 bif (v16 != v14) then (K (.inl (false, ()))) else (K (.inr (x.2.1, (x.2.2.1, (x.2.2.2.1, (x.2.2.2.2.2.1, ((x.2.2.2.2.2.2.1.1, (x.2.2.2.2.2.2.1.2.1, ())), ()))))))))) else (K (.inr (x.2.1, (x.2.2.1, (x.2.2.2.1, (x.2.2.2.2.2.1, ((x.2.2.2.2.2.2.1.1, (x.2.2.2.2.2.2.1.2.1, ())), ())))))))
def Q1.p1 (k : Nat) (x : Q1.p1.σ) : Option Q1.p1.τ := Q1.p1.r k x some
def Q1.p1.T : StT := ⟨us 3 ++ .dat .str :: .dat (.int .u64) :: .ptr 0 [] :: .dat .str :: .dat (.int .i64) :: .ptr 1 [] :: .dat (.int .i64) :: us 171, [.dat QgA, .dat Qgs]⟩
def Q1.p1.os : List Out := [⟨.ret, [.mask [2], .auto 0], ⟨us 2 ++ .dat .bool :: us 178, []⟩⟩, ⟨.normal, [.mask [4, 5, 6, 7, 8], .auto 0], ⟨us 4 ++ .dat (.int .u64) :: .ptr 0 [] :: .dat .str :: .dat (.int .i64) :: .ptr 1 [] :: us 172, [.dat QgA, .dat Qgs]⟩⟩]
abbrev Q1.p2.σ : Type := Int × ByteArray × Int × Int × ByteArray × Int × Int × Int × Int × (List Int) × Qgx × Unit
abbrev Q1.p2.τ : Type := (Bool × Unit) ⊕ (ByteArray × Int × Unit)
def Q1.p2.r (k : Nat) {ρ : Type} (x : Q1.p2.σ) (K : Q1.p2.τ → Option ρ) : Option ρ :=
 let v31 : Int := x.2.2.2.2.2.2.2.2.2.2.1.1
 let v32 : Int := x.2.2.2.2.2.2.2.2.2.2.1.2.1
 let v33 : (List Int) := x.2.2.2.2.2.2.2.2.2.1
 (Q0f k v31 v32 v33).bind fun t34 => bif (x.2.2.2.1 != t34.1) then (K (.inl (false, ()))) else (bif (x.2.2.2.2.2.1 != (0 : Int)) then (K (.inl (false, ()))) else ((Qp k x.2.2.2.1 (6 : Int)).bind fun t35 => bif (!(Q25 x.2.2.2.2.1 t35.1)) then (K (.inl (false, ()))) else (bif (x.2.2.2.2.2.2.1 != x.2.2.2.1) then (K (.inl (false, ()))) else (bif (x.2.2.2.2.2.2.2.1 != (0 : Int)) then (K (.inl (false, ()))) else (bif (!((x.2.2.2.2.2.2.2.2.1 == (0 : Int)) == (decide (x.1 < (281474976710656 : Int))))) then (K (.inl (false, ()))) else (bif (x.2.2.2.2.2.2.2.2.1 != (0 : Int)) then (bif (x.2.2.2.2.2.2.2.2.1 != (30 : Int)) then (K (.inl (false, ()))) else (K (.inr (x.2.1, (x.2.2.1, ()))))) else (K (.inr (x.2.1, (x.2.2.1, ()))))))))))
def Q1.p2 (k : Nat) (x : Q1.p2.σ) : Option Q1.p2.τ := Q1.p2.r k x some
def Q1.p2.T : StT := ⟨us 4 ++ .dat (.int .u64) :: .ptr 0 [] :: .dat .str :: .dat (.int .i64) :: .ptr 1 [] :: us 3 ++ .dat (.int .u64) :: .dat .str :: .dat (.int .i64) :: .dat (.int .u64) :: .dat (.int .i64) :: us 1 ++ .dat (.int .i64) :: us 162, [.dat QgA, .dat Qgs]⟩
def Q1.p2.os : List Out := [⟨.ret, [.mask [2], .auto 0], ⟨us 2 ++ .dat .bool :: us 178, []⟩⟩, ⟨.normal, [.mask [6, 7], .auto 0], ⟨us 6 ++ .dat .str :: .dat (.int .i64) :: us 173, []⟩⟩]
abbrev Q1.p3.σ : Type := ByteArray × Int × Int × Int × Unit
abbrev Q1.p3.τ : Type := (Bool × Unit) ⊕ (ByteArray × Int × Int × Int × Unit)
def Q1.p3.r (k : Nat) {ρ : Type} (x : Q1.p3.σ) (K : Q1.p3.τ → Option ρ) : Option ρ :=
 bif (decide (x.2.1 < (0 : Int))) then (bif (x.2.2.1 == (0 : Int)) then (K (.inl ((x.2.2.2.1 == (1 : Int)), ()))) else (K (.inl (false, ())))) else (let v42 : Int := (((ByteArray.size x.1) : Nat) : Int)
 bif (decide (x.2.1 > v42)) then (bif (x.2.2.1 == (0 : Int)) then (K (.inl ((x.2.2.2.1 == (1 : Int)), ()))) else (K (.inl (false, ())))) else (K (.inr (x.1, (x.2.1, (x.2.2.1, (x.2.2.2.1, ())))))))
def Q1.p3 (k : Nat) (x : Q1.p3.σ) : Option Q1.p3.τ := Q1.p3.r k x some
def Q1.p3.T : StT := ⟨us 6 ++ .dat .str :: .dat (.int .i64) :: us 11 ++ .dat (.int .u64) :: .dat (.int .i64) :: us 160, []⟩
def Q1.p3.os : List Out := [⟨.ret, [.mask [2], .auto 0], ⟨us 2 ++ .dat .bool :: us 178, []⟩⟩, ⟨.normal, [.mask [6, 7, 19, 20], .auto 0], ⟨us 6 ++ .dat .str :: .dat (.int .i64) :: us 11 ++ .dat (.int .u64) :: .dat (.int .i64) :: us 160, []⟩⟩]
def Q1.c (k : Nat) {ρ : Type} (d : (ByteArray × (Int × Qgt))) (K : Bool × Unit → Option ρ) : Option ρ :=
 let v0 : ByteArray := d.1
 let v1 : Int := d.2.1
 let v2 : (List Int) := d.2.2.1
 let v3 : ByteArray := d.2.2.2.1
 let v4 : Int := d.2.2.2.2.1
 (Q1a k v0 v1).bind fun t5 => let v6 : Int := t5.2.1
 (Q1.p0 k (v0, (v1, (v3, (v4, (v6, (v2, ((t5.1.1, (t5.1.2.1, ())), ())))))))).bind fun t9 => (match t9 with | .inl t10 => (K (t10.1, ())) | .inr (t11) => ((Q1.p1 k (t11.1, (t11.2.1, (t11.2.2.1, (t11.2.2.2.1, (t11.2.2.2.2.1, (t11.2.2.2.2.2.1, ((t11.2.2.2.2.2.2.1.1, (t11.2.2.2.2.2.2.1.2.1, ())), ())))))))).bind fun t17 => (match t17 with | .inl t18 => (K (t18.1, ())) | .inr (t19) => (let v20 : (List Int) := t19.2.2.2.1
 (Q0Z k (t19.2.2.2.2.1.1, (t19.2.2.2.2.1.2.1, ())) v20).bind fun t21 => (Q0x k t21.1).bind fun t22 => let v23 : ByteArray := t22.1
 let v24 : Int := t22.2.1
 (QH k v23 (0 : Int)).bind fun t25 => let v26 : Int := t25.1
 let v27 : Int := t25.2.1
 (Q0x k t19.1).bind fun t28 => let v29 : ByteArray := t28.1
 let v30 : Int := t28.2.1
 (Q1.p2 k (t19.1, (t19.2.1, (t19.2.2.1, (t21.1, (v23, (v24, (v26, (v27, (v30, (t19.2.2.2.1, ((t19.2.2.2.2.1.1, (t19.2.2.2.2.1.2.1, ())), ())))))))))))).bind fun t36 => (match t36 with | .inl t37 => (K (t37.1, ())) | .inr (t38) => ((QH k t38.1 t38.2.1).bind fun t39 => let v40 : Int := t39.1
 let v41 : Int := t39.2.1
 (Q1.p3 k (t38.1, (t38.2.1, (v40, (v41, ()))))).bind fun t43 => (match t43 with | .inl t44 => (K (t44.1, ())) | .inr (t45) => (let v46 : Int := (((ByteArray.size t45.1) : Nat) : Int)
 let v47 : Int := (IntKind.wrap IntKind.i64 (v46 - t45.2.1))
 bif (decide (v47 < (6 : Int))) then (bif (t45.2.2.1 == (0 : Int)) then (K ((t45.2.2.2.1 == (4 : Int)), ())) else (K (false, ()))) else (bif (t45.2.2.2.1 == (0 : Int)) then (let v48 : Int := (IntKind.wrap IntKind.i64 (t45.2.1 + (6 : Int)))
 bif (decide (((0 : Int) ≤ t45.2.1) ∧ ((t45.2.1 ≤ v48) ∧ (v48 ≤ (((ByteArray.size t45.1) : Nat) : Int))))) then (let v49 : ByteArray := (ByteArray.extract t45.1 (Int.toNat t45.2.1) (Int.toNat v48))
 (Ql k v49).bind fun t50 => K ((t45.2.2.1 == t50.1), ())) else (none)) else (K (false, ())))))))))))
def Q1 (k : Nat) (d : (ByteArray × (Int × Qgt))) : Option (Bool × Unit) := Q1.c k d some
def Q1.tin : List Ty := [(.pair .str (.pair (.int .u64) (.pair QgA (.pair .str (.pair (.int .i64) .unit)))))]
def Q1.tout : List Ty := [.bool]
def Q1.sem (k : Nat) : QY := Q04 Q1.tin Q1.tout fun x => Q1 k x.1
noncomputable def Q1.ctx (k : Nat) : Ctx := ⟨Try.prog, gam [(55, (Q1a.sem k)), (14, (Q0g.sem k)), (56, (Q0n.sem k)), (57, (Q0Z.sem k)), (58, (Q0x.sem k)), (59, (QH.sem k)), (31, (Q0f.sem k)), (60, (Qp.sem k)), (61, (Ql.sem k))]⟩
theorem Q1.gok (k : Nat) : ∀ f, QG Try.prog f ((Q1.ctx k).Γ f) := (Qq (Q1a.sem_ok k) (Qq (Q0g.sem_ok k) (Qq (Q0n.sem_ok k) (Qq (Q0Z.sem_ok k) (Qq (Q0x.sem_ok k) (Qq (QH.sem_ok k) (Qq (Q0f.sem_ok k) (Qq (Qp.sem_ok k) (Qq (Ql.sem_ok k) Q0e)))))))))
theorem Q1.p0.is (k : Nat) : Q1E (Q1.ctx k) (QP (Func.code Try.f12) [1, 1, 1, 0]) (.nil) Q1.p0.T Q1.p0.os (Q1.p0.r k) := by
 intro ρ x K; kernel_rfl
theorem Q1.p0.ok (k : Nat) : StOK 0 Try.prog (QP (Func.code Try.f12) [1, 1, 1, 0]) (Qx Q1.p0.T Q1.p0.os (Q1.p0 k)) :=
 Q1r (C := Q1.ctx k) (T := Q1.p0.T) (os := Q1.p0.os) (Q1.gok k) Try.mix (fun x K => Q1.p0.r k x K) Q3.nil (by kernel_rfl) (by kernel_rfl) (Q1.p0.is k)
theorem Q1.p1.is (k : Nat) : Q1E (Q1.ctx k) (QP (Func.code Try.f12) [1, 1, 1, 1, 0]) (.nil) Q1.p1.T Q1.p1.os (Q1.p1.r k) := by
 intro ρ x K; kernel_rfl
theorem Q1.p1.ok (k : Nat) : StOK 0 Try.prog (QP (Func.code Try.f12) [1, 1, 1, 1, 0]) (Qx Q1.p1.T Q1.p1.os (Q1.p1 k)) :=
 Q1r (C := Q1.ctx k) (T := Q1.p1.T) (os := Q1.p1.os) (Q1.gok k) Try.mix (fun x K => Q1.p1.r k x K) Q3.nil (by kernel_rfl) (by kernel_rfl) (Q1.p1.is k)
theorem Q1.p2.is (k : Nat) : Q1E (Q1.ctx k) (QP (Func.code Try.f12) [1, 1, 1, 1, 1, 1, 1, 1, 1, 0]) (.nil) Q1.p2.T Q1.p2.os (Q1.p2.r k) := by
 intro ρ x K; kernel_rfl
theorem Q1.p2.ok (k : Nat) : StOK 0 Try.prog (QP (Func.code Try.f12) [1, 1, 1, 1, 1, 1, 1, 1, 1, 0]) (Qx Q1.p2.T Q1.p2.os (Q1.p2 k)) :=
 Q1r (C := Q1.ctx k) (T := Q1.p2.T) (os := Q1.p2.os) (Q1.gok k) Try.mix (fun x K => Q1.p2.r k x K) Q3.nil (by kernel_rfl) (by kernel_rfl) (Q1.p2.is k)
theorem Q1.p3.is (k : Nat) : Q1E (Q1.ctx k) (QP (Func.code Try.f12) [1, 1, 1, 1, 1, 1, 1, 1, 1, 1, 1, 0]) (.nil) Q1.p3.T Q1.p3.os (Q1.p3.r k) := by
 intro ρ x K; kernel_rfl
theorem Q1.p3.ok (k : Nat) : StOK 0 Try.prog (QP (Func.code Try.f12) [1, 1, 1, 1, 1, 1, 1, 1, 1, 1, 1, 0]) (Qx Q1.p3.T Q1.p3.os (Q1.p3 k)) :=
 Q1r (C := Q1.ctx k) (T := Q1.p3.T) (os := Q1.p3.os) (Q1.gok k) Try.mix (fun x K => Q1.p3.r k x K) Q3.nil (by kernel_rfl) (by kernel_rfl) (Q1.p3.is k)
def Q1.ann (k : Nat) : Ann := .node [] none (.nil) (.node [] none (.nil) (.node [] none (.nil) (.node [] none (.node [.mask [3, 4, 5, 6, 7, 8, 9], .auto 0] (some (Qx Q1.p0.T Q1.p0.os (Q1.p0 k))) .nil .nil) (.node [] none (.node [.mask [3, 4, 5, 6, 7, 8, 9], .auto 0] (some (Qx Q1.p1.T Q1.p1.os (Q1.p1 k))) .nil .nil) (.node [] none (.nil) (.node [] none (.nil) (.node [] none (.nil) (.node [] none (.nil) (.node [] none (.node [.mask [4, 5, 6, 7, 8, 12, 13, 14, 15, 16, 18], .auto 0] (some (Qx Q1.p2.T Q1.p2.os (Q1.p2 k))) .nil .nil) (.node [] none (.nil) (.node [] none (.node [] (some (Qx Q1.p3.T Q1.p3.os (Q1.p3 k))) .nil .nil) (.nil))))))))))))
theorem Q1.body (k : Nat) : Q0K (Q1.ctx k) Try.f12 (Func.code Try.f12) (Q1.ann k) Q1.tin Q1.tout (fun x K => Q1.c k x.1 K) := by
 intro ρ x K; kernel_rfl
theorem Q1.sem_ok (k : Nat) : QG Try.prog 12 (Q1.sem k) :=
 QT (C := Q1.ctx k) (Q1.gok k) Try.mix (c := Func.code Try.f12) (ann := Q1.ann k) (tin := Q1.tin) (tout := Q1.tout) (fun x K => Q1.c k x.1 K) Try.func12 (by kernel_rfl) (by kernel_rfl) (Q3.seq Q3.nil (Q3.seq Q3.nil (Q3.seq Q3.nil (Q3.seq (Q3.loop (by kernel_rfl) (Q1.p0.ok k)) (Q3.seq (Q3.loop (by kernel_rfl) (Q1.p1.ok k)) (Q3.seq Q3.nil (Q3.seq Q3.nil (Q3.seq Q3.nil (Q3.seq Q3.nil (Q3.seq (Q3.loop (by kernel_rfl) (Q1.p2.ok k)) (Q3.seq Q3.nil (Q3.seq (Q3.loop (by kernel_rfl) (Q1.p3.ok k)) Q3.nil)))))))))))) (Q1.body k)
end Go.Am
