/- A part of a proof: a machine of abstract values that tells what functions of the program compute, and the plain facts on them. -/
import Derived.Test.YtnibopdcpbebcaaGreatAm10
import Derived.KernelRfl
set_option linter.unusedVariables false
set_option linter.unusedSimpArgs false
set_option linter.unnecessarySimpa false
set_option linter.unusedSectionVars false
namespace Go.Am
abbrev QgB : Ty := (.pair (.int .u32) .unit)
abbrev QgA : Type := (List (Int × (ByteArray × Unit)))
abbrev Qgz : Type := (ByteArray × (Int × (Int × Unit)))
abbrev Qgy : Ty := (.pair (.int .u64) (.pair .str .unit))
abbrev Qgx : Type := (Int × (Unit × (Unit × (Int × Unit))))
abbrev Qgw : Type := (ByteArray × (Int × (Int × (Int × Unit))))
abbrev Qgv : Type := (Int ×  Qgz  × Unit)
abbrev Qgu : Type := (List ((List Int) × (Int × (ByteArray × (Int × Unit)))))
abbrev Qgt : Ty := (.pair .str (.pair (.int .i64) (.pair (.int .i64) .unit)))
abbrev Qgs : Type := (List (((List Int) × (Int × Unit)) × (ByteArray × (Int × Unit))))
abbrev Qgr : Ty := (.pair (.sl  Qgy )  QgB )
abbrev Qgq : Ty := (.pair .str (.pair (.int .i64) (.pair (.int .i64) (.pair (.int .i64) .unit))))
abbrev Qgp : Ty := (.pair (.arr 32 (.int .u8)) (.pair (.int .u32) (.pair .str  QgB )))
abbrev Qgo : Ty := (.pair (.pair (.arr 32 (.int .u8))  QgB ) (.pair .str  QgB ))
abbrev Qgn : Type := (Int × ( Qgu  × ( QgA  × (Int × Unit))))
abbrev Qgm : Type := (Int × ( Qgs  × ( QgA  × (Int × Unit))))
abbrev Qgl : Type := (Int × Int × Int × Int ×  Qgw  ×  Qgw  ×  Qgw  × Unit)
abbrev Qgk : Type := ( Qgx  ×  Qgw  ×  Qgx  ×  Qgu  × Unit)
abbrev Qgj : Type := ( Qgx  ×  Qgw  ×  Qgx  ×  Qgs  × Unit)
abbrev Qgi : Type := ( Qgx  ×  Qgw  ×  Qgx  ×  Qgu  ×  QgA  × Unit)
abbrev Qgh : Type := ( Qgx  ×  Qgw  ×  Qgx  ×  Qgs  ×  QgA  × Unit)
end Go.Am
namespace Go.Am
open Go Go.Proofs
set_option maxRecDepth 100000
abbrev Q0s.τ : Type := (ByteArray × Qgw × Unit)
def Q0s.c (k : Nat) {ρ : Type} (n : Int) (b0 : Qgw) (K : Q0s.τ → Option ρ) : Option ρ :=
 let v0 : Int := b0.2.2.2.1
 bif (v0 != (0 : Int)) then (K ((⟨(List.toArray [])⟩ : ByteArray), ((b0.1, (b0.2.1, (b0.2.2.1, (b0.2.2.2.1, ())))), ()))) else (let v1 : Int := b0.2.2.1
 let v2 : Int := b0.2.1
 let v3 : Int := (IntKind.wrap IntKind.i64 (v1 - v2))
 let v4 : Int := (IntKind.wrap IntKind.i64 ((4096 : Int) - v3))
 bif (decide (n > v4)) then (K ((⟨(List.toArray [])⟩ : ByteArray), ((b0.1, (b0.2.1, (b0.2.2.1, ((101 : Int), ())))), ()))) else (let v5 : ByteArray := b0.1
 let v6 : Int := b0.2.2.1
 let v7 : Int := (IntKind.wrap IntKind.i64 ((((ByteArray.size v5) : Nat) : Int) - v6))
 bif (decide (n > v7)) then (K ((⟨(List.toArray [])⟩ : ByteArray), ((b0.1, (b0.2.1, (b0.2.2.1, ((4 : Int), ())))), ()))) else (let v8 : Int := b0.2.2.1
 let v9 : Int := (IntKind.wrap IntKind.i64 (v8 + n))
 let v10 : ByteArray := b0.1
 let v11 : Int := (IntKind.wrap IntKind.i64 (v9 - n))
 bif (decide (((0 : Int) ≤ v11) ∧ ((v11 ≤ v9) ∧ (v9 ≤ (((ByteArray.size v10) : Nat) : Int))))) then (K ((ByteArray.extract v10 (Int.toNat v11) (Int.toNat v9)), ((b0.1, (b0.2.1, (v9, (b0.2.2.2.1, ())))), ()))) else (none))))
def Q0s (k : Nat) (n : Int) (b0 : Qgw) : Option Q0s.τ := Q0s.c k n b0 some
def Q0s.T : Q1T := ⟨[.ptr 0 [], .dat (.int .i64)], [.dat Qgq], 1⟩
def Q0s.os : List Out := [⟨.ret, [.freeze (.slot 0), .auto 1], ⟨[.dat .str], [.dat Qgq]⟩⟩]
def Q0s.sem (k : Nat) : QP := Q24 Q0s.T Q0s.os fun x => Q0s k x.1 x.2.1
noncomputable def Q0s.ctx (k : Nat) : Ctx := ⟨Tryz.prog, gam []⟩
theorem Q0s.gok (k : Nat) : ∀ f, QF Tryz.prog f ((Q0s.ctx k).Γ f) := QX
def Q0s.ann (k : Nat) : Ann := .nil
theorem Q0s.body (k : Nat) : Q23 (Q0s.ctx k) Tryz.f81 (Func.code Tryz.f81) (Q0s.ann k) Q0s.T Q0s.os (fun x K => Q0s.c k x.1 x.2.1 K) := by
 intro ρ x K; kernel_rfl
theorem Q0s.sem_ok (k : Nat) : QF Tryz.prog 81 (Q0s.sem k) :=
 Q1x (C := Q0s.ctx k) (Q0s.gok k) Tryz.mix (c := Func.code Tryz.f81) (ann := Q0s.ann k) (T := Q0s.T) (os := Q0s.os) (fun x K => Q0s.c k x.1 x.2.1 K) Tryz.func81 (by kernel_rfl) (by kernel_rfl) Q1.nil (Q0s.body k) (by kernel_rfl) (by kernel_rfl) (by kernel_rfl)
abbrev Q0E.τ : Type := (Qgz × Unit)
def Q0E.c (k : Nat) {ρ : Type} (s : ByteArray) (K : Q0E.τ → Option ρ) : Option ρ :=
 K ((s, ((0 : Int), ((0 : Int), ()))), ())
def Q0E (k : Nat) (s : ByteArray) : Option Q0E.τ := Q0E.c k s some
def Q0E.T : Q1T := ⟨[.dat .str], [], 0⟩
def Q0E.os : List Out := [⟨.ret, [.auto 0], ⟨[.ptr 0 []], [.dat Qgt]⟩⟩]
def Q0E.sem (k : Nat) : QP := Q24 Q0E.T Q0E.os fun x => Q0E k x.1
noncomputable def Q0E.ctx (k : Nat) : Ctx := ⟨Tryz.prog, gam []⟩
theorem Q0E.gok (k : Nat) : ∀ f, QF Tryz.prog f ((Q0E.ctx k).Γ f) := QX
def Q0E.ann (k : Nat) : Ann := .nil
theorem Q0E.body (k : Nat) : Q23 (Q0E.ctx k) Tryz.f27 (Func.code Tryz.f27) (Q0E.ann k) Q0E.T Q0E.os (fun x K => Q0E.c k x.1 K) := by
 intro ρ x K; kernel_rfl
theorem Q0E.sem_ok (k : Nat) : QF Tryz.prog 27 (Q0E.sem k) :=
 Q1x (C := Q0E.ctx k) (Q0E.gok k) Tryz.mix (c := Func.code Tryz.f27) (ann := Q0E.ann k) (T := Q0E.T) (os := Q0E.os) (fun x K => Q0E.c k x.1 K) Tryz.func27 (by kernel_rfl) (by kernel_rfl) Q1.nil (Q0E.body k) (by kernel_rfl) (by kernel_rfl) (by kernel_rfl)
abbrev Q0k.τ : Type := Qgv 
def Q0k.c (k : Nat) {ρ : Type} (b0 : Qgz) (K : Q0k.τ → Option ρ) : Option ρ :=
 let v0 : Int := b0.2.2.1
 K (v0, ((b0.1, (b0.2.1, (b0.2.2.1, ()))), ()))
def Q0k (k : Nat) (b0 : Qgz) : Option Q0k.τ := Q0k.c k b0 some
def Q0k.T : Q1T := ⟨[.ptr 0 []], [.dat Qgt], 1⟩
def Q0k.os : List Out := [⟨.ret, [.freeze (.slot 0), .auto 1], ⟨[.dat (.int .i64)], [.dat Qgt]⟩⟩]
def Q0k.sem (k : Nat) : QP := Q24 Q0k.T Q0k.os fun x => Q0k k x.1
noncomputable def Q0k.ctx (k : Nat) : Ctx := ⟨Tryz.prog, gam []⟩
theorem Q0k.gok (k : Nat) : ∀ f, QF Tryz.prog f ((Q0k.ctx k).Γ f) := QX
def Q0k.ann (k : Nat) : Ann := .nil
theorem Q0k.body (k : Nat) : Q23 (Q0k.ctx k) Tryz.f30 (Func.code Tryz.f30) (Q0k.ann k) Q0k.T Q0k.os (fun x K => Q0k.c k x.1 K) := by
 intro ρ x K; kernel_rfl
theorem Q0k.sem_ok (k : Nat) : QF Tryz.prog 30 (Q0k.sem k) :=
 Q1x (C := Q0k.ctx k) (Q0k.gok k) Tryz.mix (c := Func.code Tryz.f30) (ann := Q0k.ann k) (T := Q0k.T) (os := Q0k.os) (fun x K => Q0k.c k x.1 K) Tryz.func30 (by kernel_rfl) (by kernel_rfl) Q1.nil (Q0k.body k) (by kernel_rfl) (by kernel_rfl) (by kernel_rfl)
abbrev Q0K.τ : Type := Qgv 
def Q0K.c (k : Nat) {ρ : Type} (b0 : Qgz) (K : Q0K.τ → Option ρ) : Option ρ :=
 let v0 : ByteArray := b0.1
 let v1 : Int := b0.2.1
 let v2 : Int := (IntKind.wrap IntKind.i64 ((((ByteArray.size v0) : Nat) : Int) - v1))
 K (v2, ((b0.1, (b0.2.1, (b0.2.2.1, ()))), ()))
def Q0K (k : Nat) (b0 : Qgz) : Option Q0K.τ := Q0K.c k b0 some
def Q0K.T : Q1T := ⟨[.ptr 0 []], [.dat Qgt], 1⟩
def Q0K.os : List Out := [⟨.ret, [.freeze (.slot 0), .auto 1], ⟨[.dat (.int .i64)], [.dat Qgt]⟩⟩]
def Q0K.sem (k : Nat) : QP := Q24 Q0K.T Q0K.os fun x => Q0K k x.1
noncomputable def Q0K.ctx (k : Nat) : Ctx := ⟨Tryz.prog, gam []⟩
theorem Q0K.gok (k : Nat) : ∀ f, QF Tryz.prog f ((Q0K.ctx k).Γ f) := QX
def Q0K.ann (k : Nat) : Ann := .nil
theorem Q0K.body (k : Nat) : Q23 (Q0K.ctx k) Tryz.f90 (Func.code Tryz.f90) (Q0K.ann k) Q0K.T Q0K.os (fun x K => Q0K.c k x.1 K) := by
 intro ρ x K; kernel_rfl
theorem Q0K.sem_ok (k : Nat) : QF Tryz.prog 90 (Q0K.sem k) :=
 Q1x (C := Q0K.ctx k) (Q0K.gok k) Tryz.mix (c := Func.code Tryz.f90) (ann := Q0K.ann k) (T := Q0K.T) (os := Q0K.os) (fun x K => Q0K.c k x.1 K) Tryz.func90 (by kernel_rfl) (by kernel_rfl) Q1.nil (Q0K.body k) (by kernel_rfl) (by kernel_rfl) (by kernel_rfl)
abbrev Q02.τ : Type := (ByteArray × Qgz × Unit)
def Q02.c (k : Nat) {ρ : Type} (n : Int) (b0 : Qgz) (K : Q02.τ → Option ρ) : Option ρ :=
 (Q0k k (b0.1, (b0.2.1, (b0.2.2.1, ())))).bind fun t0 => bif (t0.1 != (0 : Int)) then (K ((⟨(List.toArray [])⟩ : ByteArray), ((t0.2.1.1, (t0.2.1.2.1, (t0.2.1.2.2.1, ()))), ()))) else (bif (decide (n < (0 : Int))) then (K ((⟨(List.toArray [])⟩ : ByteArray), ((t0.2.1.1, (t0.2.1.2.1, ((1 : Int), ()))), ()))) else ((Q0K k (t0.2.1.1, (t0.2.1.2.1, (t0.2.1.2.2.1, ())))).bind fun t1 => bif (decide (n > t1.1)) then (K ((⟨(List.toArray [])⟩ : ByteArray), ((t1.2.1.1, (t1.2.1.2.1, ((4 : Int), ()))), ()))) else (let v2 : Int := t1.2.1.2.1
 let v3 : Int := (IntKind.wrap IntKind.i64 (v2 + n))
 let v4 : ByteArray := t1.2.1.1
 let v5 : Int := (IntKind.wrap IntKind.i64 (v3 - n))
 bif (decide (((0 : Int) ≤ v5) ∧ ((v5 ≤ v3) ∧ (v3 ≤ (((ByteArray.size v4) : Nat) : Int))))) then (K ((ByteArray.extract v4 (Int.toNat v5) (Int.toNat v3)), ((t1.2.1.1, (v3, (t1.2.1.2.2.1, ()))), ()))) else (none))))
def Q02 (k : Nat) (n : Int) (b0 : Qgz) : Option Q02.τ := Q02.c k n b0 some
def Q02.T : Q1T := ⟨[.ptr 0 [], .dat (.int .i64)], [.dat Qgt], 1⟩
def Q02.os : List Out := [⟨.ret, [.freeze (.slot 0), .auto 1], ⟨[.dat .str], [.dat Qgt]⟩⟩]
def Q02.sem (k : Nat) : QP := Q24 Q02.T Q02.os fun x => Q02 k x.1 x.2.1
noncomputable def Q02.ctx (k : Nat) : Ctx := ⟨Tryz.prog, gam [(30, (Q0k.sem k)), (90, (Q0K.sem k))]⟩
theorem Q02.gok (k : Nat) : ∀ f, QF Tryz.prog f ((Q02.ctx k).Γ f) := (Qk (Q0k.sem_ok k) (Qk (Q0K.sem_ok k) QX))
def Q02.ann (k : Nat) : Ann := .nil
theorem Q02.body (k : Nat) : Q23 (Q02.ctx k) Tryz.f59 (Func.code Tryz.f59) (Q02.ann k) Q02.T Q02.os (fun x K => Q02.c k x.1 x.2.1 K) := by
 intro ρ x K; kernel_rfl
theorem Q02.sem_ok (k : Nat) : QF Tryz.prog 59 (Q02.sem k) :=
 Q1x (C := Q02.ctx k) (Q02.gok k) Tryz.mix (c := Func.code Tryz.f59) (ann := Q02.ann k) (T := Q02.T) (os := Q02.os) (fun x K => Q02.c k x.1 x.2.1 K) Tryz.func59 (by kernel_rfl) (by kernel_rfl) Q1.nil (Q02.body k) (by kernel_rfl) (by kernel_rfl) (by kernel_rfl)
abbrev Q0I.l0.σ : Type := ByteArray × Int × Int × Int × Unit
abbrev Q0I.l0.τ : Type := (Int × Unit)
def Q0I.l0.r (k : Nat) {ρ : Type} (x : Q0I.l0.σ) (kn : Q0I.l0.σ → Option ρ) (ke : Q0I.l0.τ → Option ρ) : Option ρ :=
 bif (decide (x.2.2.2.1 < x.2.2.1)) then (bif (decide (((0 : Int) ≤ x.2.2.2.1) ∧ (x.2.2.2.1 < (((ByteArray.size x.1) : Nat) : Int)))) then (let v0 : Int := (Q1u x.1 (Int.toNat x.2.2.2.1))
 let v1 : Int := (IntKind.wrap IntKind.i64 ((8 : Int) * x.2.2.2.1))
 bif (decide ((0 : Int) ≤ v1)) then (let v2 : Int := (Q0S BinOp.or IntKind.u64 x.2.1 (Q1W IntKind.u64 (IntKind.wrap IntKind.u64 v0) v1))
 let v3 : Int := (IntKind.wrap IntKind.i64 (x.2.2.2.1 + (1 : Int)))
 kn (x.1, (v2, (x.2.2.1, (v3, ()))))) else (none)) else (none)) else (ke (x.2.1, ()))
def Q0I.l0 (k : Nat) : Nat → Q0I.l0.σ → Option Q0I.l0.τ := Q14 (Q0I.l0.r k)
def Q0I.l0.T : StT := ⟨.dat .str :: us 2 ++ .dat (.int .u64) :: us 2 ++ .dat (.int .i64) :: .dat (.int .i64) :: us 13, []⟩
def Q0I.l0.os : List Out := [⟨(.exit 0), [.mask [3], .auto 0], ⟨us 3 ++ .dat (.int .u64) :: us 17, []⟩⟩]
def Q0I.c (k : Nat) {ρ : Type} (s : ByteArray) (K : Int × Unit → Option ρ) : Option ρ :=
 (Q0I.l0 k k (s, ((0 : Int), ((((ByteArray.size s) : Nat) : Int), ((0 : Int), ()))))).bind fun t4 => K (t4.1, ())
def Q0I (k : Nat) (s : ByteArray) : Option (Int × Unit) := Q0I.c k s some
def Q0I.tin : List Ty := [.str]
def Q0I.tout : List Ty := [(.int .u64)]
def Q0I.sem (k : Nat) : QP := QW Q0I.tin Q0I.tout fun x => Q0I k x.1
noncomputable def Q0I.ctx (k : Nat) : Ctx := ⟨Tryz.prog, gam []⟩
theorem Q0I.gok (k : Nat) : ∀ f, QF Tryz.prog f ((Q0I.ctx k).Γ f) := QX
theorem Q0I.l0.round (k : Nat) : Q10 (Q0I.ctx k) (QM (Func.code Tryz.f58) [1, 1, 0, 1, 0, 0]) (.nil) Q0I.l0.T [.mask [0, 3, 6, 7], .auto 0] Q0I.l0.os (Q0I.l0.r k) := by
 intro ρ x kn ke; kernel_rfl
theorem Q0I.l0.ok (k : Nat) : StOK 0 Tryz.prog (.loop (QM (Func.code Tryz.f58) [1, 1, 0, 1, 0, 0])) (Qn Q0I.l0.T Q0I.l0.os (Q0I.l0 k k)) :=
 Q11 (C := Q0I.ctx k) (Q0I.gok k) Tryz.mix Q1.nil (by kernel_rfl) (by kernel_rfl) (by kernel_rfl) (Q0I.l0.round k) k
def Q0I.ann (k : Nat) : Ann := .node [] none (.nil) (.node [] none (.nil) (.node [] none (.node [] none (.nil) (.node [] none (.node [] (some (Qn Q0I.l0.T Q0I.l0.os (Q0I.l0 k k))) .nil .nil) (.nil))) (.nil)))
theorem Q0I.body (k : Nat) : Q0R (Q0I.ctx k) Tryz.f58 (Func.code Tryz.f58) (Q0I.ann k) Q0I.tin Q0I.tout (fun x K => Q0I.c k x.1 K) := by
 intro ρ x K; kernel_rfl
theorem Q0I.sem_ok (k : Nat) : QF Tryz.prog 58 (Q0I.sem k) :=
 QD (C := Q0I.ctx k) (Q0I.gok k) Tryz.mix (c := Func.code Tryz.f58) (ann := Q0I.ann k) (tin := Q0I.tin) (tout := Q0I.tout) (fun x K => Q0I.c k x.1 K) Tryz.func58 (by kernel_rfl) (by kernel_rfl) (Q1.seq Q1.nil (Q1.seq Q1.nil (Q1.seq (Q1.seq Q1.nil (Q1.block (Q1.loop (by kernel_rfl) (Q0I.l0.ok k)))) Q1.nil))) (Q0I.body k)
abbrev Q0h.τ : Type := Qgv 
def Q0h.c (k : Nat) {ρ : Type} (b0 : Qgz) (K : Q0h.τ → Option ρ) : Option ρ :=
 (Q02 k (4 : Int) (b0.1, (b0.2.1, (b0.2.2.1, ())))).bind fun t0 => (Q0I k t0.1).bind fun t1 => let v2 : Int := (IntKind.wrap IntKind.u32 t1.1)
 K (v2, ((t0.2.1.1, (t0.2.1.2.1, (t0.2.1.2.2.1, ()))), ()))
def Q0h (k : Nat) (b0 : Qgz) : Option Q0h.τ := Q0h.c k b0 some
def Q0h.T : Q1T := ⟨[.ptr 0 []], [.dat Qgt], 1⟩
def Q0h.os : List Out := [⟨.ret, [.freeze (.slot 0), .auto 1], ⟨[.dat (.int .u32)], [.dat Qgt]⟩⟩]
def Q0h.sem (k : Nat) : QP := Q24 Q0h.T Q0h.os fun x => Q0h k x.1
noncomputable def Q0h.ctx (k : Nat) : Ctx := ⟨Tryz.prog, gam [(59, (Q02.sem k)), (58, (Q0I.sem k))]⟩
theorem Q0h.gok (k : Nat) : ∀ f, QF Tryz.prog f ((Q0h.ctx k).Γ f) := (Qk (Q02.sem_ok k) (Qk (Q0I.sem_ok k) QX))
def Q0h.ann (k : Nat) : Ann := .nil
theorem Q0h.body (k : Nat) : Q23 (Q0h.ctx k) Tryz.f28 (Func.code Tryz.f28) (Q0h.ann k) Q0h.T Q0h.os (fun x K => Q0h.c k x.1 K) := by
 intro ρ x K; kernel_rfl
theorem Q0h.sem_ok (k : Nat) : QF Tryz.prog 28 (Q0h.sem k) :=
 Q1x (C := Q0h.ctx k) (Q0h.gok k) Tryz.mix (c := Func.code Tryz.f28) (ann := Q0h.ann k) (T := Q0h.T) (os := Q0h.os) (fun x K => Q0h.c k x.1 K) Tryz.func28 (by kernel_rfl) (by kernel_rfl) Q1.nil (Q0h.body k) (by kernel_rfl) (by kernel_rfl) (by kernel_rfl)
abbrev Q0X.τ : Type := (Int × Qgw × Unit)
def Q0X.c (k : Nat) {ρ : Type} (b0 : Qgw) (K : Q0X.τ → Option ρ) : Option ρ :=
 (Q0s k (4 : Int) (b0.1, (b0.2.1, (b0.2.2.1, (b0.2.2.2.1, ()))))).bind fun t0 => (Q0E k t0.1).bind fun t1 => (Q0h k (t1.1.1, (t1.1.2.1, (t1.1.2.2.1, ())))).bind fun t2 => K (t2.1, ((t0.2.1.1, (t0.2.1.2.1, (t0.2.1.2.2.1, (t0.2.1.2.2.2.1, ())))), ()))
def Q0X (k : Nat) (b0 : Qgw) : Option Q0X.τ := Q0X.c k b0 some
def Q0X.T : Q1T := ⟨[.ptr 0 []], [.dat Qgq], 1⟩
def Q0X.os : List Out := [⟨.ret, [.freeze (.slot 0), .auto 1], ⟨[.dat (.int .u32)], [.dat Qgq]⟩⟩]
def Q0X.sem (k : Nat) : QP := Q24 Q0X.T Q0X.os fun x => Q0X k x.1
noncomputable def Q0X.ctx (k : Nat) : Ctx := ⟨Tryz.prog, gam [(81, (Q0s.sem k)), (27, (Q0E.sem k)), (28, (Q0h.sem k))]⟩
theorem Q0X.gok (k : Nat) : ∀ f, QF Tryz.prog f ((Q0X.ctx k).Γ f) := (Qk (Q0s.sem_ok k) (Qk (Q0E.sem_ok k) (Qk (Q0h.sem_ok k) QX)))
def Q0X.ann (k : Nat) : Ann := .nil
theorem Q0X.body (k : Nat) : Q23 (Q0X.ctx k) Tryz.f79 (Func.code Tryz.f79) (Q0X.ann k) Q0X.T Q0X.os (fun x K => Q0X.c k x.1 K) := by
 intro ρ x K; kernel_rfl
theorem Q0X.sem_ok (k : Nat) : QF Tryz.prog 79 (Q0X.sem k) :=
 Q1x (C := Q0X.ctx k) (Q0X.gok k) Tryz.mix (c := Func.code Tryz.f79) (ann := Q0X.ann k) (T := Q0X.T) (os := Q0X.os) (fun x K => Q0X.c k x.1 K) Tryz.func79 (by kernel_rfl) (by kernel_rfl) Q1.nil (Q0X.body k) (by kernel_rfl) (by kernel_rfl) (by kernel_rfl)
abbrev QR.p0.σ : Type := ByteArray × Int × Unit
abbrev QR.p0.τ : Type := (Int × Int × Int × Unit) ⊕ (ByteArray × Int × Unit)
def QR.p0.r (k : Nat) {ρ : Type} (x : QR.p0.σ) (K : QR.p0.τ → Option ρ) : Option ρ :=
 bif (decide (x.2.1 < (0 : Int))) then (K (.inl ((0 : Int), ((0 : Int), ((1 : Int), ()))))) else (let v0 : Int := (((ByteArray.size x.1) : Nat) : Int)
 bif (decide (x.2.1 > v0)) then (K (.inl ((0 : Int), ((0 : Int), ((1 : Int), ()))))) else (K (.inr (x.1, (x.2.1, ())))))
def QR.p0 (k : Nat) (x : QR.p0.σ) : Option QR.p0.τ := QR.p0.r k x some
def QR.p0.T : StT := ⟨.dat .str :: .dat (.int .i64) :: us 50, []⟩
def QR.p0.os : List Out := [⟨.ret, [.mask [4, 5, 6], .auto 0], ⟨us 4 ++ .dat (.int .u64) :: .dat (.int .i64) :: .dat (.int .i64) :: us 45, []⟩⟩, ⟨.normal, [.mask [0, 1], .auto 0], ⟨.dat .str :: .dat (.int .i64) :: us 50, []⟩⟩]
def QR.c (k : Nat) {ρ : Type} (s : ByteArray) (at_1 : Int) (K : Int × Int × Int × Unit → Option ρ) : Option ρ :=
 (QR.p0 k (s, (at_1, ()))).bind fun t1 => (match t1 with | .inl t2 => (K (t2.1, (t2.2.1, (t2.2.2.1, ())))) | .inr (t3) => (bif (decide (((0 : Int) ≤ t3.2.1) ∧ ((t3.2.1 ≤ (((ByteArray.size t3.1) : Nat) : Int)) ∧ ((((ByteArray.size t3.1) : Nat) : Int) ≤ (((ByteArray.size t3.1) : Nat) : Int))))) then (let v4 : ByteArray := (ByteArray.extract t3.1 (Int.toNat t3.2.1) (Int.toNat (((ByteArray.size t3.1) : Nat) : Int)))
 bif (Q32 v4 (⟨(List.toArray [])⟩ : ByteArray)) then (K ((0 : Int), ((0 : Int), ((4 : Int), ())))) else (bif (decide (((0 : Int) ≤ (0 : Int)) ∧ ((0 : Int) < (((ByteArray.size v4) : Nat) : Int)))) then (bif (decide ((Q1u v4 0) < (253 : Int))) then (bif (decide (((0 : Int) ≤ (0 : Int)) ∧ ((0 : Int) < (((ByteArray.size v4) : Nat) : Int)))) then (let v5 : Int := (IntKind.wrap IntKind.i64 (t3.2.1 + (1 : Int)))
 K ((IntKind.wrap IntKind.u64 (Q1u v4 0)), (v5, ((0 : Int), ())))) else (none)) else (bif (decide (((0 : Int) ≤ (0 : Int)) ∧ ((0 : Int) < (((ByteArray.size v4) : Nat) : Int)))) then (let v6 : Int := (IntKind.wrap IntKind.u8 ((Q1u v4 0) - (253 : Int)))
 bif (decide ((0 : Int) ≤ v6)) then (let v7 : Int := (Q1W IntKind.i64 (2 : Int) v6)
 let v8 : Int := (IntKind.wrap IntKind.i64 ((1 : Int) + v7))
 bif (decide ((((ByteArray.size v4) : Nat) : Int) < v8)) then (K ((0 : Int), ((0 : Int), ((4 : Int), ())))) else (bif (decide (((0 : Int) ≤ (1 : Int)) ∧ (((1 : Int) ≤ v8) ∧ (v8 ≤ (((ByteArray.size v4) : Nat) : Int))))) then ((Q0I k (ByteArray.extract v4 1 (Int.toNat v8))).bind fun t9 => (Q0w k t9.1).bind fun t10 => bif (t10.1 != v8) then (K ((0 : Int), ((0 : Int), ((6 : Int), ())))) else (let v11 : Int := (IntKind.wrap IntKind.i64 (t3.2.1 + v8))
 K (t9.1, (v11, ((0 : Int), ()))))) else (none))) else (none)) else (none))) else (none))) else (none)))
def QR (k : Nat) (s : ByteArray) (at_1 : Int) : Option (Int × Int × Int × Unit) := QR.c k s at_1 some
def QR.tin : List Ty := [.str, (.int .i64)]
def QR.tout : List Ty := [(.int .u64), (.int .i64), (.int .i64)]
def QR.sem (k : Nat) : QP := QW QR.tin QR.tout fun x => QR k x.1 x.2.1
noncomputable def QR.ctx (k : Nat) : Ctx := ⟨Tryz.prog, gam [(58, (Q0I.sem k)), (53, (Q0w.sem k))]⟩
theorem QR.gok (k : Nat) : ∀ f, QF Tryz.prog f ((QR.ctx k).Γ f) := (Qk (Q0I.sem_ok k) (Qk (Q0w.sem_ok k) QX))
theorem QR.p0.is (k : Nat) : Q1O (QR.ctx k) (QM (Func.code Tryz.f78) [1, 0]) (.nil) QR.p0.T QR.p0.os (QR.p0.r k) := by
 intro ρ x K; kernel_rfl
theorem QR.p0.ok (k : Nat) : StOK 0 Tryz.prog (QM (Func.code Tryz.f78) [1, 0]) (Qn QR.p0.T QR.p0.os (QR.p0 k)) :=
 Q1F (C := QR.ctx k) (T := QR.p0.T) (os := QR.p0.os) (QR.gok k) Tryz.mix (fun x K => QR.p0.r k x K) Q1.nil (by kernel_rfl) (by kernel_rfl) (QR.p0.is k)
def QR.ann (k : Nat) : Ann := .node [] none (.nil) (.node [] none (.node [] (some (Qn QR.p0.T QR.p0.os (QR.p0 k))) .nil .nil) (.nil))
theorem QR.body (k : Nat) : Q0R (QR.ctx k) Tryz.f78 (Func.code Tryz.f78) (QR.ann k) QR.tin QR.tout (fun x K => QR.c k x.1 x.2.1 K) := by
 intro ρ x K; kernel_rfl
theorem QR.sem_ok (k : Nat) : QF Tryz.prog 78 (QR.sem k) :=
 QD (C := QR.ctx k) (QR.gok k) Tryz.mix (c := Func.code Tryz.f78) (ann := QR.ann k) (tin := QR.tin) (tout := QR.tout) (fun x K => QR.c k x.1 x.2.1 K) Tryz.func78 (by kernel_rfl) (by kernel_rfl) (Q1.seq Q1.nil (Q1.seq (Q1.loop (by kernel_rfl) (QR.p0.ok k)) Q1.nil)) (QR.body k)
abbrev QJ.p0.σ : Type := Int × Int × Int × Qgw × Unit
abbrev QJ.p0.τ : Type := (Int × Int × Int × Qgw × Unit)
def QJ.p0.r (k : Nat) {ρ : Type} (x : QJ.p0.σ) (K : QJ.p0.τ → Option ρ) : Option ρ :=
 let v0 : Int := x.2.2.2.1.2.2.2.1
 bif (v0 == (0 : Int)) then (let v1 : Int := x.2.2.2.1.2.2.1
 let v2 : ByteArray := x.2.2.2.1.1
 bif (decide (v1 < (((ByteArray.size v2) : Nat) : Int))) then (let v3 : ByteArray := x.2.2.2.1.1
 let v4 : Int := x.2.2.2.1.2.2.1
 bif (decide (((0 : Int) ≤ v4) ∧ (v4 < (((ByteArray.size v3) : Nat) : Int)))) then (bif ((Q1u v3 (Int.toNat v4)) == (253 : Int)) then (K (x.1, (x.2.1, ((3 : Int), ((x.2.2.2.1.1, (x.2.2.2.1.2.1, (x.2.2.2.1.2.2.1, (x.2.2.2.1.2.2.2.1, ())))), ()))))) else (bif ((Q1u v3 (Int.toNat v4)) == (254 : Int)) then (K (x.1, (x.2.1, ((5 : Int), ((x.2.2.2.1.1, (x.2.2.2.1.2.1, (x.2.2.2.1.2.2.1, (x.2.2.2.1.2.2.2.1, ())))), ()))))) else (bif ((Q1u v3 (Int.toNat v4)) == (255 : Int)) then (K (x.1, (x.2.1, ((9 : Int), ((x.2.2.2.1.1, (x.2.2.2.1.2.1, (x.2.2.2.1.2.2.1, (x.2.2.2.1.2.2.2.1, ())))), ()))))) else (K (x.1, (x.2.1, (x.2.2.1, ((x.2.2.2.1.1, (x.2.2.2.1.2.1, (x.2.2.2.1.2.2.1, (x.2.2.2.1.2.2.2.1, ())))), ())))))))) else (none)) else (K (x.1, (x.2.1, (x.2.2.1, ((x.2.2.2.1.1, (x.2.2.2.1.2.1, (x.2.2.2.1.2.2.1, (x.2.2.2.1.2.2.2.1, ())))), ())))))) else (K (x.1, (x.2.1, (x.2.2.1, ((x.2.2.2.1.1, (x.2.2.2.1.2.1, (x.2.2.2.1.2.2.1, (x.2.2.2.1.2.2.2.1, ())))), ())))))
def QJ.p0 (k : Nat) (x : QJ.p0.σ) : Option QJ.p0.τ := QJ.p0.r k x some
def QJ.p0.T : StT := ⟨.ptr 0 [] :: .dat (.int .i64) :: .dat (.int .i64) :: us 4 ++ .dat (.int .i64) :: us 68, [.dat Qgq]⟩
def QJ.p0.os : List Out := [⟨.normal, [.mask [0, 1, 2, 7], .auto 1], ⟨.ptr 0 [] :: .dat (.int .i64) :: .dat (.int .i64) :: us 4 ++ .dat (.int .i64) :: us 68, [.dat Qgq]⟩⟩]
abbrev QJ.τ : Type := (Int × Qgw × Unit)
def QJ.c (k : Nat) {ρ : Type} (most : Int) (e : Int) (b0 : Qgw) (K : QJ.τ → Option ρ) : Option ρ :=
 (QJ.p0 k (most, (e, ((1 : Int), ((b0.1, (b0.2.1, (b0.2.2.1, (b0.2.2.2.1, ())))), ()))))).bind fun t5 => (Q0s k t5.2.2.1 (t5.2.2.2.1.1, (t5.2.2.2.1.2.1, (t5.2.2.2.1.2.2.1, (t5.2.2.2.1.2.2.2.1, ()))))).bind fun t6 => let v7 : Int := t6.2.1.2.2.2.1
 bif (v7 != (0 : Int)) then (K ((0 : Int), ((t6.2.1.1, (t6.2.1.2.1, (t6.2.1.2.2.1, (t6.2.1.2.2.2.1, ())))), ()))) else ((QR k t6.1 (0 : Int)).bind fun t8 => let v9 : Int := t8.1
 let v10 : Int := t8.2.1
 let v11 : Int := t8.2.2.1
 bif (v11 != (0 : Int)) then (K ((0 : Int), ((t6.2.1.1, (t6.2.1.2.1, (t6.2.1.2.2.1, (v11, ())))), ()))) else (let v12 : Int := (IntKind.wrap IntKind.u64 t5.1)
 bif (decide (v9 > v12)) then (K ((0 : Int), ((t6.2.1.1, (t6.2.1.2.1, (t6.2.1.2.2.1, (t5.2.1, ())))), ()))) else (K ((IntKind.wrap IntKind.i64 v9), ((t6.2.1.1, (t6.2.1.2.1, (t6.2.1.2.2.1, (t6.2.1.2.2.2.1, ())))), ())))))
def QJ (k : Nat) (most : Int) (e : Int) (b0 : Qgw) : Option QJ.τ := QJ.c k most e b0 some
def QJ.T : Q1T := ⟨[.ptr 0 [], .dat (.int .i64), .dat (.int .i64)], [.dat Qgq], 1⟩
def QJ.os : List Out := [⟨.ret, [.freeze (.slot 0), .auto 1], ⟨[.dat (.int .i64)], [.dat Qgq]⟩⟩]
def QJ.sem (k : Nat) : QP := Q24 QJ.T QJ.os fun x => QJ k x.1 x.2.1 x.2.2.1
noncomputable def QJ.ctx (k : Nat) : Ctx := ⟨Tryz.prog, gam [(81, (Q0s.sem k)), (78, (QR.sem k))]⟩
theorem QJ.gok (k : Nat) : ∀ f, QF Tryz.prog f ((QJ.ctx k).Γ f) := (Qk (Q0s.sem_ok k) (Qk (QR.sem_ok k) QX))
theorem QJ.p0.is (k : Nat) : Q1O (QJ.ctx k) (QM (Func.code Tryz.f80) [1, 1, 0]) (.nil) QJ.p0.T QJ.p0.os (QJ.p0.r k) := by
 intro ρ x K; kernel_rfl
theorem QJ.p0.ok (k : Nat) : StOK 1 Tryz.prog (QM (Func.code Tryz.f80) [1, 1, 0]) (Qn QJ.p0.T QJ.p0.os (QJ.p0 k)) :=
 Q1F (C := QJ.ctx k) (T := QJ.p0.T) (os := QJ.p0.os) (QJ.gok k) Tryz.mix (fun x K => QJ.p0.r k x K) Q1.nil (by kernel_rfl) (by kernel_rfl) (QJ.p0.is k)
def QJ.ann (k : Nat) : Ann := .node [] none (.nil) (.node [] none (.nil) (.node [] none (.node [.mask [0, 1, 2, 7], .auto 1] (some (Qn QJ.p0.T QJ.p0.os (QJ.p0 k))) .nil .nil) (.nil)))
theorem QJ.body (k : Nat) : Q23 (QJ.ctx k) Tryz.f80 (Func.code Tryz.f80) (QJ.ann k) QJ.T QJ.os (fun x K => QJ.c k x.1 x.2.1 x.2.2.1 K) := by
 intro ρ x K; kernel_rfl
theorem QJ.sem_ok (k : Nat) : QF Tryz.prog 80 (QJ.sem k) :=
 Q1x (C := QJ.ctx k) (QJ.gok k) Tryz.mix (c := Func.code Tryz.f80) (ann := QJ.ann k) (T := QJ.T) (os := QJ.os) (fun x K => QJ.c k x.1 x.2.1 x.2.2.1 K) Tryz.func80 (by kernel_rfl) (by kernel_rfl) (Q1.seq Q1.nil (Q1.seq Q1.nil (Q1.seq (Q1.loop (by kernel_rfl) (QJ.p0.ok k)) Q1.nil))) (QJ.body k) (by kernel_rfl) (by kernel_rfl) (by kernel_rfl)
abbrev Q0J.τ : Type := (ByteArray × Qgw × Unit)
def Q0J.c (k : Nat) {ρ : Type} (b0 : Qgw) (K : Q0J.τ → Option ρ) : Option ρ :=
 (QJ k (520 : Int) (100 : Int) (b0.1, (b0.2.1, (b0.2.2.1, (b0.2.2.2.1, ()))))).bind fun t0 => (Q0s k t0.1 (t0.2.1.1, (t0.2.1.2.1, (t0.2.1.2.2.1, (t0.2.1.2.2.2.1, ()))))).bind fun t1 => K (t1.1, ((t1.2.1.1, (t1.2.1.2.1, (t1.2.1.2.2.1, (t1.2.1.2.2.2.1, ())))), ()))
def Q0J (k : Nat) (b0 : Qgw) : Option Q0J.τ := Q0J.c k b0 some
def Q0J.T : Q1T := ⟨[.ptr 0 []], [.dat Qgq], 1⟩
def Q0J.os : List Out := [⟨.ret, [.freeze (.slot 0), .auto 1], ⟨[.dat .str], [.dat Qgq]⟩⟩]
def Q0J.sem (k : Nat) : QP := Q24 Q0J.T Q0J.os fun x => Q0J k x.1
noncomputable def Q0J.ctx (k : Nat) : Ctx := ⟨Tryz.prog, gam [(80, (QJ.sem k)), (81, (Q0s.sem k))]⟩
theorem Q0J.gok (k : Nat) : ∀ f, QF Tryz.prog f ((Q0J.ctx k).Γ f) := (Qk (QJ.sem_ok k) (Qk (Q0s.sem_ok k) QX))
def Q0J.ann (k : Nat) : Ann := .nil
theorem Q0J.body (k : Nat) : Q23 (Q0J.ctx k) Tryz.f82 (Func.code Tryz.f82) (Q0J.ann k) Q0J.T Q0J.os (fun x K => Q0J.c k x.1 K) := by
 intro ρ x K; kernel_rfl
theorem Q0J.sem_ok (k : Nat) : QF Tryz.prog 82 (Q0J.sem k) :=
 Q1x (C := Q0J.ctx k) (Q0J.gok k) Tryz.mix (c := Func.code Tryz.f82) (ann := Q0J.ann k) (T := Q0J.T) (os := Q0J.os) (fun x K => Q0J.c k x.1 K) Tryz.func82 (by kernel_rfl) (by kernel_rfl) Q1.nil (Q0J.body k) (by kernel_rfl) (by kernel_rfl) (by kernel_rfl)
abbrev Q0P.τ : Type := Qgv 
def Q0P.c (k : Nat) {ρ : Type} (b0 : Qgz) (K : Q0P.τ → Option ρ) : Option ρ :=
 (Q02 k (8 : Int) (b0.1, (b0.2.1, (b0.2.2.1, ())))).bind fun t0 => (Q0I k t0.1).bind fun t1 => K (t1.1, ((t0.2.1.1, (t0.2.1.2.1, (t0.2.1.2.2.1, ()))), ()))
def Q0P (k : Nat) (b0 : Qgz) : Option Q0P.τ := Q0P.c k b0 some
def Q0P.T : Q1T := ⟨[.ptr 0 []], [.dat Qgt], 1⟩
def Q0P.os : List Out := [⟨.ret, [.freeze (.slot 0), .auto 1], ⟨[.dat (.int .u64)], [.dat Qgt]⟩⟩]
def Q0P.sem (k : Nat) : QP := Q24 Q0P.T Q0P.os fun x => Q0P k x.1
noncomputable def Q0P.ctx (k : Nat) : Ctx := ⟨Tryz.prog, gam [(59, (Q02.sem k)), (58, (Q0I.sem k))]⟩
theorem Q0P.gok (k : Nat) : ∀ f, QF Tryz.prog f ((Q0P.ctx k).Γ f) := (Qk (Q02.sem_ok k) (Qk (Q0I.sem_ok k) QX))
def Q0P.ann (k : Nat) : Ann := .nil
theorem Q0P.body (k : Nat) : Q23 (Q0P.ctx k) Tryz.f83 (Func.code Tryz.f83) (Q0P.ann k) Q0P.T Q0P.os (fun x K => Q0P.c k x.1 K) := by
 intro ρ x K; kernel_rfl
theorem Q0P.sem_ok (k : Nat) : QF Tryz.prog 83 (Q0P.sem k) :=
 Q1x (C := Q0P.ctx k) (Q0P.gok k) Tryz.mix (c := Func.code Tryz.f83) (ann := Q0P.ann k) (T := Q0P.T) (os := Q0P.os) (fun x K => Q0P.c k x.1 K) Tryz.func83 (by kernel_rfl) (by kernel_rfl) Q1.nil (Q0P.body k) (by kernel_rfl) (by kernel_rfl) (by kernel_rfl)
abbrev Qy.p0.σ : Type := ByteArray × Int × Qgx × Unit
abbrev Qy.p0.τ : Type := (Int × Int × Qgx × Unit) ⊕ (ByteArray × Int × Qgx × Unit)
def Qy.p0.r (k : Nat) {ρ : Type} (x : Qy.p0.σ) (K : Qy.p0.τ → Option ρ) : Option ρ :=
 bif (decide (x.2.1 < (0 : Int))) then (K (.inl ((0 : Int), ((1 : Int), (((0 : Int), ((), ((), ((0 : Int), ())))), ()))))) else (let v0 : Int := (((ByteArray.size x.1) : Nat) : Int)
 bif (decide (x.2.1 > v0)) then (K (.inl ((0 : Int), ((1 : Int), (((0 : Int), ((), ((), ((0 : Int), ())))), ()))))) else (K (.inr (x.1, (x.2.1, ((x.2.2.1.1, ((), ((), (x.2.2.1.2.2.2.1, ())))), ()))))))
def Qy.p0 (k : Nat) (x : Qy.p0.σ) : Option Qy.p0.τ := Qy.p0.r k x some
def Qy.p0.T : StT := ⟨.dat .str :: .dat (.int .i64) :: us 2 ++ .ptr 0 [] :: us 105, [.pair (.dat (.int .u32)) (.pair (.nils) (.pair (.nils) (.dat QgB)))]⟩
def Qy.p0.os : List Out := [⟨.ret, [.mask [4, 5, 6], .auto 0], ⟨us 4 ++ .ptr 0 [] :: .dat (.int .i64) :: .dat (.int .i64) :: us 103, [.pair (.dat (.int .u32)) (.pair (.nils) (.pair (.nils) (.dat QgB)))]⟩⟩, ⟨.normal, [.mask [0, 1, 4], .auto 0], ⟨.dat .str :: .dat (.int .i64) :: us 2 ++ .ptr 0 [] :: us 105, [.pair (.dat (.int .u32)) (.pair (.nils) (.pair (.nils) (.dat QgB)))]⟩⟩]
abbrev Qy.p2.σ : Type := Int × Qgx × Qgw × Qgx × Qgs × Unit
abbrev Qy.p2.τ : Type := (Int × Qgx × Qgw × Qgx × Qgs × Unit) ⊕ Qgj 
def Qy.p2.r (k : Nat) {ρ : Type} (x : Qy.p2.σ) (K : Qy.p2.τ → Option ρ) : Option ρ :=
 bif (decide (x.1 > (0 : Int))) then (let v6 : Int := x.2.2.1.2.2.2.1
 bif (v6 == (0 : Int)) then (K (.inl (x.1, ((x.2.1.1, ((), ((), (x.2.1.2.2.2.1, ())))), ((x.2.2.1.1, (x.2.2.1.2.1, (x.2.2.1.2.2.1, (x.2.2.1.2.2.2.1, ())))), ((x.2.2.2.1.1, ((), ((), (x.2.2.2.1.2.2.2.1, ())))), (x.2.2.2.2.1, ()))))))) else (K (.inr ((x.2.1.1, ((), ((), (x.2.1.2.2.2.1, ())))), ((x.2.2.1.1, (x.2.2.1.2.1, (x.2.2.1.2.2.1, (x.2.2.1.2.2.2.1, ())))), ((x.2.2.2.1.1, ((), ((), (x.2.2.2.1.2.2.2.1, ())))), (x.2.2.2.2.1, ()))))))) else (K (.inr ((x.2.1.1, ((), ((), (x.2.1.2.2.2.1, ())))), ((x.2.2.1.1, (x.2.2.1.2.1, (x.2.2.1.2.2.1, (x.2.2.1.2.2.2.1, ())))), ((x.2.2.2.1.1, ((), ((), (x.2.2.2.1.2.2.2.1, ())))), (x.2.2.2.2.1, ()))))))
def Qy.p2 (k : Nat) (x : Qy.p2.σ) : Option Qy.p2.τ := Qy.p2.r k x some
def Qy.p2.T : StT := ⟨us 4 ++ .ptr 0 [] :: us 2 ++ .ptr 1 [] :: .ptr 2 [] :: .dat (.int .i64) :: us 100, [.pair (.dat (.int .u32)) (.pair (.nils) (.pair (.nils) (.dat QgB))), .dat Qgq, .pair (.dat (.int .u32)) (.pair (.vsl 3) (.pair (.nils) (.dat QgB))), .vec Qgo]⟩
def Qy.p2.os : List Out := [⟨.normal, [.mask [4, 7, 8, 9], .auto 0], ⟨us 4 ++ .ptr 0 [] :: us 2 ++ .ptr 1 [] :: .ptr 2 [] :: .dat (.int .i64) :: us 100, [.pair (.dat (.int .u32)) (.pair (.nils) (.pair (.nils) (.dat QgB))), .dat Qgq, .pair (.dat (.int .u32)) (.pair (.vsl 3) (.pair (.nils) (.dat QgB))), .vec Qgo]⟩⟩, ⟨(.exit 0), [.mask [4, 7, 8], .auto 0], ⟨us 4 ++ .ptr 0 [] :: us 2 ++ .ptr 1 [] :: .ptr 2 [] :: us 101, [.pair (.dat (.int .u32)) (.pair (.nils) (.pair (.nils) (.dat QgB))), .dat Qgq, .pair (.dat (.int .u32)) (.pair (.vsl 3) (.pair (.nils) (.dat QgB))), .vec Qgo]⟩⟩]
abbrev Qy.l1.σ : Type := Int × Qgx × Qgw × Qgx × Qgs × Unit
abbrev Qy.l1.τ : Type := Qgj 
def Qy.l1.r (k : Nat) {ρ : Type} (x : Qy.l1.σ) (kn : Qy.l1.σ → Option ρ) (ke : Qy.l1.τ → Option ρ) : Option ρ :=
 (Qy.p2 k (x.1, ((x.2.1.1, ((), ((), (x.2.1.2.2.2.1, ())))), ((x.2.2.1.1, (x.2.2.1.2.1, (x.2.2.1.2.2.1, (x.2.2.1.2.2.2.1, ())))), ((x.2.2.2.1.1, ((), ((), (x.2.2.2.1.2.2.2.1, ())))), (x.2.2.2.2.1, ())))))).bind fun t7 => (match t7 with | .inl t8 => ((Q0s k (32 : Int) (t8.2.2.1.1, (t8.2.2.1.2.1, (t8.2.2.1.2.2.1, (t8.2.2.1.2.2.2.1, ()))))).bind fun t9 => let v10 : Int := (((Min.min (List.length (QQ t9.1)) 32) : Nat) : Int)
 (Q0X k (t9.2.1.1, (t9.2.1.2.1, (t9.2.1.2.2.1, (t9.2.1.2.2.2.1, ()))))).bind fun t11 => (Q0J k (t11.2.1.1, (t11.2.1.2.1, (t11.2.1.2.2.1, (t11.2.1.2.2.2.1, ()))))).bind fun t12 => (Q0X k (t12.2.1.1, (t12.2.1.2.1, (t12.2.1.2.2.1, (t12.2.1.2.2.2.1, ()))))).bind fun t13 => bif (Nat.ble (((List.length t8.2.2.2.2.1) + (List.length (List.set (List.replicate 1 (((List.replicate 32 (0 : Int)), ((0 : Int), ())), (ByteArray.empty, ((0 : Int), ())))) 0 (((Q2k (List.replicate 32 (0 : Int)) 0 (QQ t9.1) (Min.min (List.length (QQ t9.1)) 32)), (t11.1, ())), (t12.1, (t13.1, ())))))) * 64) 140737488355328) then (let v14 : Int := (IntKind.wrap IntKind.i64 (t8.1 - (1 : Int)))
 kn (v14, ((t8.2.1.1, ((), ((), (t8.2.1.2.2.2.1, ())))), ((t13.2.1.1, (t13.2.1.2.1, (t13.2.1.2.2.1, (t13.2.1.2.2.2.1, ())))), ((t8.2.2.2.1.1, ((), ((), (t8.2.2.2.1.2.2.2.1, ())))), ((t8.2.2.2.2.1 ++ (List.set (List.replicate 1 (((List.replicate 32 (0 : Int)), ((0 : Int), ())), (ByteArray.empty, ((0 : Int), ())))) 0 (((Q2k (List.replicate 32 (0 : Int)) 0 (QQ t9.1) (Min.min (List.length (QQ t9.1)) 32)), (t11.1, ())), (t12.1, (t13.1, ()))))), ())))))) else (none)) | .inr (t15) => (ke ((t15.1.1, ((), ((), (t15.1.2.2.2.1, ())))), ((t15.2.1.1, (t15.2.1.2.1, (t15.2.1.2.2.1, (t15.2.1.2.2.2.1, ())))), ((t15.2.2.1.1, ((), ((), (t15.2.2.1.2.2.2.1, ())))), (t15.2.2.2.1, ()))))))
def Qy.l1 (k : Nat) : Nat → Qy.l1.σ → Option Qy.l1.τ := Q14 (Qy.l1.r k)
def Qy.l1.T : StT := ⟨us 4 ++ .ptr 0 [] :: us 2 ++ .ptr 1 [] :: .ptr 2 [] :: .dat (.int .i64) :: us 100, [.pair (.dat (.int .u32)) (.pair (.nils) (.pair (.nils) (.dat QgB))), .dat Qgq, .pair (.dat (.int .u32)) (.pair (.vsl 3) (.pair (.nils) (.dat QgB))), .vec Qgo]⟩
def Qy.l1.os : List Out := [⟨(.exit 0), [.mask [4, 7, 8], .auto 0], ⟨us 4 ++ .ptr 0 [] :: us 2 ++ .ptr 1 [] :: .ptr 2 [] :: us 101, [.pair (.dat (.int .u32)) (.pair (.nils) (.pair (.nils) (.dat QgB))), .dat Qgq, .pair (.dat (.int .u32)) (.pair (.vsl 3) (.pair (.nils) (.dat QgB))), .vec Qgo]⟩⟩]
abbrev Qy.p4.σ : Type := Int × Qgx × Qgw × Qgx × Qgs × QgA × Unit
abbrev Qy.p4.τ : Type := (Int × Qgx × Qgw × Qgx × Qgs × QgA × Unit) ⊕ Qgh 
def Qy.p4.r (k : Nat) {ρ : Type} (x : Qy.p4.σ) (K : Qy.p4.τ → Option ρ) : Option ρ :=
 bif (decide (x.1 > (0 : Int))) then (let v18 : Int := x.2.2.1.2.2.2.1
 bif (v18 == (0 : Int)) then (K (.inl (x.1, ((x.2.1.1, ((), ((), (x.2.1.2.2.2.1, ())))), ((x.2.2.1.1, (x.2.2.1.2.1, (x.2.2.1.2.2.1, (x.2.2.1.2.2.2.1, ())))), ((x.2.2.2.1.1, ((), ((), (x.2.2.2.1.2.2.2.1, ())))), (x.2.2.2.2.1, (x.2.2.2.2.2.1, ())))))))) else (K (.inr ((x.2.1.1, ((), ((), (x.2.1.2.2.2.1, ())))), ((x.2.2.1.1, (x.2.2.1.2.1, (x.2.2.1.2.2.1, (x.2.2.1.2.2.2.1, ())))), ((x.2.2.2.1.1, ((), ((), (x.2.2.2.1.2.2.2.1, ())))), (x.2.2.2.2.1, (x.2.2.2.2.2.1, ())))))))) else (K (.inr ((x.2.1.1, ((), ((), (x.2.1.2.2.2.1, ())))), ((x.2.2.1.1, (x.2.2.1.2.1, (x.2.2.1.2.2.1, (x.2.2.1.2.2.2.1, ())))), ((x.2.2.2.1.1, ((), ((), (x.2.2.2.1.2.2.2.1, ())))), (x.2.2.2.2.1, (x.2.2.2.2.2.1, ())))))))
def Qy.p4 (k : Nat) (x : Qy.p4.σ) : Option Qy.p4.τ := Qy.p4.r k x some
def Qy.p4.T : StT := ⟨us 4 ++ .ptr 0 [] :: us 2 ++ .ptr 1 [] :: .ptr 2 [] :: us 2 ++ .dat (.int .i64) :: us 98, [.pair (.dat (.int .u32)) (.pair (.nils) (.pair (.nils) (.dat QgB))), .dat Qgq, .pair (.dat (.int .u32)) (.pair (.vsl 3) (.pair (.vsl 4) (.dat QgB))), .vec Qgo, .vec Qgy]⟩
def Qy.p4.os : List Out := [⟨.normal, [.mask [4, 7, 8, 11], .auto 0], ⟨us 4 ++ .ptr 0 [] :: us 2 ++ .ptr 1 [] :: .ptr 2 [] :: us 2 ++ .dat (.int .i64) :: us 98, [.pair (.dat (.int .u32)) (.pair (.nils) (.pair (.nils) (.dat QgB))), .dat Qgq, .pair (.dat (.int .u32)) (.pair (.vsl 3) (.pair (.vsl 4) (.dat QgB))), .vec Qgo, .vec Qgy]⟩⟩, ⟨(.exit 2), [.mask [4, 7, 8], .auto 0], ⟨us 4 ++ .ptr 0 [] :: us 2 ++ .ptr 1 [] :: .ptr 2 [] :: us 101, [.pair (.dat (.int .u32)) (.pair (.nils) (.pair (.nils) (.dat QgB))), .dat Qgq, .pair (.dat (.int .u32)) (.pair (.vsl 3) (.pair (.vsl 4) (.dat QgB))), .vec Qgo, .vec Qgy]⟩⟩]
abbrev Qy.l3.σ : Type := Int × Qgx × Qgw × Qgx × Qgs × QgA × Unit
abbrev Qy.l3.τ : Type := Qgh 
def Qy.l3.r (k : Nat) {ρ : Type} (x : Qy.l3.σ) (kn : Qy.l3.σ → Option ρ) (ke : Qy.l3.τ → Option ρ) : Option ρ :=
 (Qy.p4 k (x.1, ((x.2.1.1, ((), ((), (x.2.1.2.2.2.1, ())))), ((x.2.2.1.1, (x.2.2.1.2.1, (x.2.2.1.2.2.1, (x.2.2.1.2.2.2.1, ())))), ((x.2.2.2.1.1, ((), ((), (x.2.2.2.1.2.2.2.1, ())))), (x.2.2.2.2.1, (x.2.2.2.2.2.1, ()))))))).bind fun t19 => (match t19 with | .inl t20 => ((Q0s k (8 : Int) (t20.2.2.1.1, (t20.2.2.1.2.1, (t20.2.2.1.2.2.1, (t20.2.2.1.2.2.2.1, ()))))).bind fun t21 => (Q0E k t21.1).bind fun t22 => (Q0P k (t22.1.1, (t22.1.2.1, (t22.1.2.2.1, ())))).bind fun t23 => (Q0J k (t21.2.1.1, (t21.2.1.2.1, (t21.2.1.2.2.1, (t21.2.1.2.2.2.1, ()))))).bind fun t24 => bif (Nat.ble (((List.length t20.2.2.2.2.2.1) + (List.length (List.set (List.replicate 1 ((0 : Int), (ByteArray.empty, ()))) 0 (t23.1, (t24.1, ()))))) * 24) 140737488355328) then (let v25 : Int := (IntKind.wrap IntKind.i64 (t20.1 - (1 : Int)))
 kn (v25, ((t20.2.1.1, ((), ((), (t20.2.1.2.2.2.1, ())))), ((t24.2.1.1, (t24.2.1.2.1, (t24.2.1.2.2.1, (t24.2.1.2.2.2.1, ())))), ((t20.2.2.2.1.1, ((), ((), (t20.2.2.2.1.2.2.2.1, ())))), (t20.2.2.2.2.1, ((t20.2.2.2.2.2.1 ++ (List.set (List.replicate 1 ((0 : Int), (ByteArray.empty, ()))) 0 (t23.1, (t24.1, ())))), ()))))))) else (none)) | .inr (t26) => (ke ((t26.1.1, ((), ((), (t26.1.2.2.2.1, ())))), ((t26.2.1.1, (t26.2.1.2.1, (t26.2.1.2.2.1, (t26.2.1.2.2.2.1, ())))), ((t26.2.2.1.1, ((), ((), (t26.2.2.1.2.2.2.1, ())))), (t26.2.2.2.1, (t26.2.2.2.2.1, ())))))))
def Qy.l3 (k : Nat) : Nat → Qy.l3.σ → Option Qy.l3.τ := Q14 (Qy.l3.r k)
def Qy.l3.T : StT := ⟨us 4 ++ .ptr 0 [] :: us 2 ++ .ptr 1 [] :: .ptr 2 [] :: us 2 ++ .dat (.int .i64) :: us 98, [.pair (.dat (.int .u32)) (.pair (.nils) (.pair (.nils) (.dat QgB))), .dat Qgq, .pair (.dat (.int .u32)) (.pair (.vsl 3) (.pair (.vsl 4) (.dat QgB))), .vec Qgo, .vec Qgy]⟩
def Qy.l3.os : List Out := [⟨(.exit 2), [.mask [4, 7, 8], .auto 0], ⟨us 4 ++ .ptr 0 [] :: us 2 ++ .ptr 1 [] :: .ptr 2 [] :: us 101, [.pair (.dat (.int .u32)) (.pair (.nils) (.pair (.nils) (.dat QgB))), .dat Qgq, .pair (.dat (.int .u32)) (.pair (.vsl 3) (.pair (.vsl 4) (.dat QgB))), .vec Qgo, .vec Qgy]⟩⟩]
def Qy.c (k : Nat) {ρ : Type} (s : ByteArray) (at_1 : Int) (K : Qgm × Int × Int × Unit → Option ρ) : Option ρ :=
 (Qy.p0 k (s, (at_1, (((0 : Int), ((), ((), ((0 : Int), ())))), ())))).bind fun t1 => (match t1 with | .inl t2 => (K ((t2.2.2.1.1, ([], ([], (t2.2.2.1.2.2.2.1, ())))), (t2.1, (t2.2.1, ())))) | .inr (t3) => ((Q0X k (t3.1, (t3.2.1, (t3.2.1, ((0 : Int), ()))))).bind fun t4 => (QJ k (4096 : Int) (5 : Int) (t4.2.1.1, (t4.2.1.2.1, (t4.2.1.2.2.1, (t4.2.1.2.2.2.1, ()))))).bind fun t5 => (Qy.l1 k k (t5.1, ((t3.2.2.1.1, ((), ((), (t3.2.2.1.2.2.2.1, ())))), ((t5.2.1.1, (t5.2.1.2.1, (t5.2.1.2.2.1, (t5.2.1.2.2.2.1, ())))), ((t4.1, ((), ((), ((0 : Int), ())))), ([], ())))))).bind fun t16 => (QJ k (4096 : Int) (5 : Int) (t16.2.1.1, (t16.2.1.2.1, (t16.2.1.2.2.1, (t16.2.1.2.2.2.1, ()))))).bind fun t17 => (Qy.l3 k k (t17.1, ((t16.1.1, ((), ((), (t16.1.2.2.2.1, ())))), ((t17.2.1.1, (t17.2.1.2.1, (t17.2.1.2.2.1, (t17.2.1.2.2.2.1, ())))), ((t16.2.2.1.1, ((), ((), (t16.2.2.1.2.2.2.1, ())))), (t16.2.2.2.1, ([], ()))))))).bind fun t27 => (Q0X k (t27.2.1.1, (t27.2.1.2.1, (t27.2.1.2.2.1, (t27.2.1.2.2.2.1, ()))))).bind fun t28 => let v29 : Int := t28.2.1.2.2.2.1
 bif (v29 != (0 : Int)) then (let v30 : Int := t28.2.1.2.2.2.1
 K (((0 : Int), ([], ([], ((0 : Int), ())))), ((0 : Int), (v30, ())))) else (let v31 : Int := t28.2.1.2.2.1
 K ((t27.2.2.1.1, (t27.2.2.2.1, (t27.2.2.2.2.1, (t28.1, ())))), (v31, ((0 : Int), ()))))))
def Qy (k : Nat) (s : ByteArray) (at_1 : Int) : Option (Qgm × Int × Int × Unit) := Qy.c k s at_1 some
def Qy.tin : List Ty := [.str, (.int .i64)]
def Qy.tout : List Ty := [(.pair (.int .u32) (.pair (.sl Qgo) Qgr)), (.int .i64), (.int .i64)]
def Qy.sem (k : Nat) : QP := QW Qy.tin Qy.tout fun x => Qy k x.1 x.2.1
noncomputable def Qy.ctx (k : Nat) : Ctx := ⟨Tryz.prog, gam [(79, (Q0X.sem k)), (80, (QJ.sem k)), (81, (Q0s.sem k)), (82, (Q0J.sem k)), (27, (Q0E.sem k)), (83, (Q0P.sem k))]⟩
theorem Qy.gok (k : Nat) : ∀ f, QF Tryz.prog f ((Qy.ctx k).Γ f) := (Qk (Q0X.sem_ok k) (Qk (QJ.sem_ok k) (Qk (Q0s.sem_ok k) (Qk (Q0J.sem_ok k) (Qk (Q0E.sem_ok k) (Qk (Q0P.sem_ok k) QX))))))
theorem Qy.p0.is (k : Nat) : Q1O (Qy.ctx k) (QM (Func.code Tryz.f50) [1, 0]) (.nil) Qy.p0.T Qy.p0.os (Qy.p0.r k) := by
 intro ρ x K; kernel_rfl
theorem Qy.p0.ok (k : Nat) : StOK 0 Tryz.prog (QM (Func.code Tryz.f50) [1, 0]) (Qn Qy.p0.T Qy.p0.os (Qy.p0 k)) :=
 Q1F (C := Qy.ctx k) (T := Qy.p0.T) (os := Qy.p0.os) (Qy.gok k) Tryz.mix (fun x K => Qy.p0.r k x K) Q1.nil (by kernel_rfl) (by kernel_rfl) (Qy.p0.is k)
theorem Qy.p2.is (k : Nat) : Q1O (Qy.ctx k) (QM (Func.code Tryz.f50) [1, 1, 1, 1, 1, 0, 1, 0, 0, 0]) (.nil) Qy.p2.T Qy.p2.os (Qy.p2.r k) := by
 intro ρ x K; kernel_rfl
theorem Qy.p2.ok (k : Nat) : StOK 0 Tryz.prog (QM (Func.code Tryz.f50) [1, 1, 1, 1, 1, 0, 1, 0, 0, 0]) (Qn Qy.p2.T Qy.p2.os (Qy.p2 k)) :=
 Q1F (C := Qy.ctx k) (T := Qy.p2.T) (os := Qy.p2.os) (Qy.gok k) Tryz.mix (fun x K => Qy.p2.r k x K) Q1.nil (by kernel_rfl) (by kernel_rfl) (Qy.p2.is k)
theorem Qy.l1.round (k : Nat) : Q10 (Qy.ctx k) (QM (Func.code Tryz.f50) [1, 1, 1, 1, 1, 0, 1, 0, 0]) (.node [] none (.node [.mask [4, 7, 8, 9], .auto 0] (some (Qn Qy.p2.T Qy.p2.os (Qy.p2 k))) .nil .nil) (.nil)) Qy.l1.T [.mask [4, 7, 8, 9], .auto 0] Qy.l1.os (Qy.l1.r k) := by
 intro ρ x kn ke; kernel_rfl
theorem Qy.l1.ok (k : Nat) : StOK 0 Tryz.prog (.loop (QM (Func.code Tryz.f50) [1, 1, 1, 1, 1, 0, 1, 0, 0])) (Qn Qy.l1.T Qy.l1.os (Qy.l1 k k)) :=
 Q11 (C := Qy.ctx k) (Qy.gok k) Tryz.mix (Q1.seq (Q1.loop (by kernel_rfl) (Qy.p2.ok k)) Q1.nil) (by kernel_rfl) (by kernel_rfl) (by kernel_rfl) (Qy.l1.round k) k
theorem Qy.p4.is (k : Nat) : Q1O (Qy.ctx k) (QM (Func.code Tryz.f50) [1, 1, 1, 1, 1, 1, 0, 1, 0, 0, 0]) (.nil) Qy.p4.T Qy.p4.os (Qy.p4.r k) := by
 intro ρ x K; kernel_rfl
theorem Qy.p4.ok (k : Nat) : StOK 0 Tryz.prog (QM (Func.code Tryz.f50) [1, 1, 1, 1, 1, 1, 0, 1, 0, 0, 0]) (Qn Qy.p4.T Qy.p4.os (Qy.p4 k)) :=
 Q1F (C := Qy.ctx k) (T := Qy.p4.T) (os := Qy.p4.os) (Qy.gok k) Tryz.mix (fun x K => Qy.p4.r k x K) Q1.nil (by kernel_rfl) (by kernel_rfl) (Qy.p4.is k)
theorem Qy.l3.round (k : Nat) : Q10 (Qy.ctx k) (QM (Func.code Tryz.f50) [1, 1, 1, 1, 1, 1, 0, 1, 0, 0]) (.node [] none (.node [.mask [4, 7, 8, 11], .auto 0] (some (Qn Qy.p4.T Qy.p4.os (Qy.p4 k))) .nil .nil) (.nil)) Qy.l3.T [.mask [4, 7, 8, 11], .auto 0] Qy.l3.os (Qy.l3.r k) := by
 intro ρ x kn ke; kernel_rfl
theorem Qy.l3.ok (k : Nat) : StOK 0 Tryz.prog (.loop (QM (Func.code Tryz.f50) [1, 1, 1, 1, 1, 1, 0, 1, 0, 0])) (Qn Qy.l3.T Qy.l3.os (Qy.l3 k k)) :=
 Q11 (C := Qy.ctx k) (Qy.gok k) Tryz.mix (Q1.seq (Q1.loop (by kernel_rfl) (Qy.p4.ok k)) Q1.nil) (by kernel_rfl) (by kernel_rfl) (by kernel_rfl) (Qy.l3.round k) k
def Qy.ann (k : Nat) : Ann := .node [] none (.nil) (.node [] none (.node [.mask [0, 1, 4], .auto 0] (some (Qn Qy.p0.T Qy.p0.os (Qy.p0 k))) .nil .nil) (.node [] none (.nil) (.node [] none (.nil) (.node [] none (.nil) (.node [] none (.node [] none (.nil) (.node [] none (.node [.mask [4, 7, 8, 9], .auto 0, .own (.blk 2 [1]) Qgo] (some (Qn Qy.l1.T Qy.l1.os (Qy.l1 k k))) .nil .nil) (.nil))) (.node [] none (.node [] none (.nil) (.node [] none (.node [.mask [4, 7, 8, 11], .auto 0, .own (.blk 2 [2]) Qgy] (some (Qn Qy.l3.T Qy.l3.os (Qy.l3 k k))) .nil .nil) (.nil))) (.nil)))))))
theorem Qy.body (k : Nat) : Q0R (Qy.ctx k) Tryz.f50 (Func.code Tryz.f50) (Qy.ann k) Qy.tin Qy.tout (fun x K => Qy.c k x.1 x.2.1 K) := by
 intro ρ x K; kernel_rfl
theorem Qy.sem_ok (k : Nat) : QF Tryz.prog 50 (Qy.sem k) :=
 QD (C := Qy.ctx k) (Qy.gok k) Tryz.mix (c := Func.code Tryz.f50) (ann := Qy.ann k) (tin := Qy.tin) (tout := Qy.tout) (fun x K => Qy.c k x.1 x.2.1 K) Tryz.func50 (by kernel_rfl) (by kernel_rfl) (Q1.seq Q1.nil (Q1.seq (Q1.loop (by kernel_rfl) (Qy.p0.ok k)) (Q1.seq Q1.nil (Q1.seq Q1.nil (Q1.seq Q1.nil (Q1.seq (Q1.seq Q1.nil (Q1.block (Q1.loop (by kernel_rfl) (Qy.l1.ok k)))) (Q1.seq (Q1.seq Q1.nil (Q1.block (Q1.loop (by kernel_rfl) (Qy.l3.ok k)))) Q1.nil))))))) (Qy.body k)
end Go.Am
namespace Go.Am
open Go Go.Proofs
set_option maxRecDepth 100000
def Q0d.c (k : Nat) {ρ : Type} (r : Qgw) (n : Int) (K : Qgw × ByteArray × Unit → Option ρ) : Option ρ :=
 let v0 : Int := r.2.2.2.1
 bif (v0 != (0 : Int)) then (K ((r.1, (r.2.1, (r.2.2.1, (r.2.2.2.1, ())))), ((⟨(List.toArray [])⟩ : ByteArray), ()))) else (let v1 : Int := r.2.2.1
 let v2 : Int := r.2.1
 let v3 : Int := (IntKind.wrap IntKind.i64 (v1 - v2))
 let v4 : Int := (IntKind.wrap IntKind.i64 (v3 + n))
 bif (decide (v4 > (4096 : Int))) then (K ((r.1, (r.2.1, (r.2.2.1, ((101 : Int), ())))), ((⟨(List.toArray [])⟩ : ByteArray), ()))) else (let v5 : ByteArray := r.1
 let v6 : Int := r.2.2.1
 let v7 : Int := (IntKind.wrap IntKind.i64 ((((ByteArray.size v5) : Nat) : Int) - v6))
 bif (decide (v7 < n)) then (K ((r.1, (r.2.1, (r.2.2.1, ((4 : Int), ())))), ((⟨(List.toArray [])⟩ : ByteArray), ()))) else (let v8 : Int := r.2.2.1
 let v9 : Int := (IntKind.wrap IntKind.i64 (v8 + n))
 let v10 : ByteArray := r.1
 let v11 : Int := (IntKind.wrap IntKind.i64 (v9 - n))
 bif (decide (((0 : Int) ≤ v11) ∧ ((v11 ≤ v9) ∧ (v9 ≤ (((ByteArray.size v10) : Nat) : Int))))) then (K ((r.1, (r.2.1, (v9, (r.2.2.2.1, ())))), ((ByteArray.extract v10 (Int.toNat v11) (Int.toNat v9)), ()))) else (none))))
def Q0d (k : Nat) (r : Qgw) (n : Int) : Option (Qgw × ByteArray × Unit) := Q0d.c k r n some
def Q0d.tin : List Ty := [Qgq, (.int .i64)]
def Q0d.tout : List Ty := [Qgq, .str]
def Q0d.sem (k : Nat) : QP := QW Q0d.tin Q0d.tout fun x => Q0d k x.1 x.2.1
noncomputable def Q0d.ctx (k : Nat) : Ctx := ⟨Tryz.prog, gam []⟩
theorem Q0d.gok (k : Nat) : ∀ f, QF Tryz.prog f ((Q0d.ctx k).Γ f) := QX
def Q0d.ann (k : Nat) : Ann := .nil
theorem Q0d.body (k : Nat) : Q0R (Q0d.ctx k) Tryz.f86 (Func.code Tryz.f86) (Q0d.ann k) Q0d.tin Q0d.tout (fun x K => Q0d.c k x.1 x.2.1 K) := by
 intro ρ x K; kernel_rfl
theorem Q0d.sem_ok (k : Nat) : QF Tryz.prog 86 (Q0d.sem k) :=
 QD (C := Q0d.ctx k) (Q0d.gok k) Tryz.mix (c := Func.code Tryz.f86) (ann := Q0d.ann k) (tin := Q0d.tin) (tout := Q0d.tout) (fun x K => Q0d.c k x.1 x.2.1 K) Tryz.func86 (by kernel_rfl) (by kernel_rfl) Q1.nil (Q0d.body k)
abbrev Qm.l0.σ : Type := ByteArray × Int × Int × Qgw × Qgw × Unit
abbrev Qm.l0.τ : Type := (Int × Qgw × Qgw × Unit)
def Qm.l0.r (k : Nat) {ρ : Type} (x : Qm.l0.σ) (kn : Qm.l0.σ → Option ρ) (ke : Qm.l0.τ → Option ρ) : Option ρ :=
 bif (decide (x.2.2.1 ≥ (0 : Int))) then (let v3 : Int := (IntKind.wrap IntKind.u64 ((256 : Int) * x.2.1))
 bif (decide (((0 : Int) ≤ x.2.2.1) ∧ (x.2.2.1 < (((ByteArray.size x.1) : Nat) : Int)))) then (let v4 : Int := (Q1u x.1 (Int.toNat x.2.2.1))
 let v5 : Int := (IntKind.wrap IntKind.u64 (v3 + (IntKind.wrap IntKind.u64 v4)))
 let v6 : Int := (IntKind.wrap IntKind.i64 (x.2.2.1 - (1 : Int)))
 kn (x.1, (v5, (v6, ((x.2.2.2.1.1, (x.2.2.2.1.2.1, (x.2.2.2.1.2.2.1, (x.2.2.2.1.2.2.2.1, ())))), ((x.2.2.2.2.1.1, (x.2.2.2.2.1.2.1, (x.2.2.2.2.1.2.2.1, (x.2.2.2.2.1.2.2.2.1, ())))), ())))))) else (none)) else (ke (x.2.1, ((x.2.2.2.1.1, (x.2.2.2.1.2.1, (x.2.2.2.1.2.2.1, (x.2.2.2.1.2.2.2.1, ())))), ((x.2.2.2.2.1.1, (x.2.2.2.2.1.2.1, (x.2.2.2.2.1.2.2.1, (x.2.2.2.2.1.2.2.2.1, ())))), ()))))
def Qm.l0 (k : Nat) : Nat → Qm.l0.σ → Option Qm.l0.τ := Q14 (Qm.l0.r k)
def Qm.l0.T : StT := ⟨us 2 ++ .ptr 0 [] :: us 1 ++ .ptr 1 [] :: us 1 ++ .dat .str :: .dat (.int .u64) :: .dat (.int .i64) :: us 22, [.dat Qgq, .dat Qgq]⟩
def Qm.l0.os : List Out := [⟨(.exit 0), [.mask [2, 4, 7], .auto 0], ⟨us 2 ++ .ptr 0 [] :: us 1 ++ .ptr 1 [] :: us 2 ++ .dat (.int .u64) :: us 23, [.dat Qgq, .dat Qgq]⟩⟩]
def Qm.c (k : Nat) {ρ : Type} (r : Qgw) (n : Int) (K : Qgw × Int × Unit → Option ρ) : Option ρ :=
 (Q0d k (r.1, (r.2.1, (r.2.2.1, (r.2.2.2.1, ())))) n).bind fun t0 => let v1 : ByteArray := t0.2.1
 let v2 : Int := (IntKind.wrap IntKind.i64 ((((ByteArray.size v1) : Nat) : Int) - (1 : Int)))
 (Qm.l0 k k (v1, ((0 : Int), (v2, ((t0.1.1, (t0.1.2.1, (t0.1.2.2.1, (t0.1.2.2.2.1, ())))), (((⟨(List.toArray [])⟩ : ByteArray), ((0 : Int), ((0 : Int), ((0 : Int), ())))), ())))))).bind fun t7 => K ((t7.2.1.1, (t7.2.1.2.1, (t7.2.1.2.2.1, (t7.2.1.2.2.2.1, ())))), (t7.1, ()))
def Qm (k : Nat) (r : Qgw) (n : Int) : Option (Qgw × Int × Unit) := Qm.c k r n some
def Qm.tin : List Ty := [Qgq, (.int .i64)]
def Qm.tout : List Ty := [Qgq, (.int .u64)]
def Qm.sem (k : Nat) : QP := QW Qm.tin Qm.tout fun x => Qm k x.1 x.2.1
noncomputable def Qm.ctx (k : Nat) : Ctx := ⟨Tryz.prog, gam [(86, (Q0d.sem k))]⟩
theorem Qm.gok (k : Nat) : ∀ f, QF Tryz.prog f ((Qm.ctx k).Γ f) := (Qk (Q0d.sem_ok k) QX)
theorem Qm.l0.round (k : Nat) : Q10 (Qm.ctx k) (QM (Func.code Tryz.f84) [1, 1, 1, 0, 1, 0, 0]) (.nil) Qm.l0.T [.mask [2, 4, 6, 7, 8], .auto 0] Qm.l0.os (Qm.l0.r k) := by
 intro ρ x kn ke; kernel_rfl
theorem Qm.l0.ok (k : Nat) : StOK 0 Tryz.prog (.loop (QM (Func.code Tryz.f84) [1, 1, 1, 0, 1, 0, 0])) (Qn Qm.l0.T Qm.l0.os (Qm.l0 k k)) :=
 Q11 (C := Qm.ctx k) (Qm.gok k) Tryz.mix Q1.nil (by kernel_rfl) (by kernel_rfl) (by kernel_rfl) (Qm.l0.round k) k
def Qm.ann (k : Nat) : Ann := .node [] none (.nil) (.node [] none (.nil) (.node [] none (.nil) (.node [] none (.node [] none (.nil) (.node [] none (.node [.mask [2, 4, 6, 7, 8], .auto 0] (some (Qn Qm.l0.T Qm.l0.os (Qm.l0 k k))) .nil .nil) (.nil))) (.nil))))
theorem Qm.body (k : Nat) : Q0R (Qm.ctx k) Tryz.f84 (Func.code Tryz.f84) (Qm.ann k) Qm.tin Qm.tout (fun x K => Qm.c k x.1 x.2.1 K) := by
 intro ρ x K; kernel_rfl
theorem Qm.sem_ok (k : Nat) : QF Tryz.prog 84 (Qm.sem k) :=
 QD (C := Qm.ctx k) (Qm.gok k) Tryz.mix (c := Func.code Tryz.f84) (ann := Qm.ann k) (tin := Qm.tin) (tout := Qm.tout) (fun x K => Qm.c k x.1 x.2.1 K) Tryz.func84 (by kernel_rfl) (by kernel_rfl) (Q1.seq Q1.nil (Q1.seq Q1.nil (Q1.seq Q1.nil (Q1.seq (Q1.seq Q1.nil (Q1.block (Q1.loop (by kernel_rfl) (Qm.l0.ok k)))) Q1.nil)))) (Qm.body k)
abbrev Qc.p0.σ : Type := Int × Int × Int × Int × Int × Qgw × Qgw × Qgw × Unit
abbrev Qc.p0.τ : Type := Qgl 
def Qc.p0.r (k : Nat) {ρ : Type} (x : Qc.p0.σ) (K : Qc.p0.τ → Option ρ) : Option ρ :=
 bif (x.2.2.1 == (253 : Int)) then (K (x.1, (x.2.1, (x.2.2.2.1, ((2 : Int), ((x.2.2.2.2.2.1.1, (x.2.2.2.2.2.1.2.1, (x.2.2.2.2.2.1.2.2.1, (x.2.2.2.2.2.1.2.2.2.1, ())))), ((x.2.2.2.2.2.2.1.1, (x.2.2.2.2.2.2.1.2.1, (x.2.2.2.2.2.2.1.2.2.1, (x.2.2.2.2.2.2.1.2.2.2.1, ())))), ((x.2.2.2.2.2.2.2.1.1, (x.2.2.2.2.2.2.2.1.2.1, (x.2.2.2.2.2.2.2.1.2.2.1, (x.2.2.2.2.2.2.2.1.2.2.2.1, ())))), ())))))))) else (bif (x.2.2.1 == (254 : Int)) then (K (x.1, (x.2.1, (x.2.2.2.1, ((4 : Int), ((x.2.2.2.2.2.1.1, (x.2.2.2.2.2.1.2.1, (x.2.2.2.2.2.1.2.2.1, (x.2.2.2.2.2.1.2.2.2.1, ())))), ((x.2.2.2.2.2.2.1.1, (x.2.2.2.2.2.2.1.2.1, (x.2.2.2.2.2.2.1.2.2.1, (x.2.2.2.2.2.2.1.2.2.2.1, ())))), ((x.2.2.2.2.2.2.2.1.1, (x.2.2.2.2.2.2.2.1.2.1, (x.2.2.2.2.2.2.2.1.2.2.1, (x.2.2.2.2.2.2.2.1.2.2.2.1, ())))), ())))))))) else (bif (x.2.2.1 == (255 : Int)) then (K (x.1, (x.2.1, (x.2.2.2.1, ((8 : Int), ((x.2.2.2.2.2.1.1, (x.2.2.2.2.2.1.2.1, (x.2.2.2.2.2.1.2.2.1, (x.2.2.2.2.2.1.2.2.2.1, ())))), ((x.2.2.2.2.2.2.1.1, (x.2.2.2.2.2.2.1.2.1, (x.2.2.2.2.2.2.1.2.2.1, (x.2.2.2.2.2.2.1.2.2.2.1, ())))), ((x.2.2.2.2.2.2.2.1.1, (x.2.2.2.2.2.2.2.1.2.1, (x.2.2.2.2.2.2.2.1.2.2.1, (x.2.2.2.2.2.2.2.1.2.2.2.1, ())))), ())))))))) else (K (x.1, (x.2.1, (x.2.2.2.1, (x.2.2.2.2.1, ((x.2.2.2.2.2.1.1, (x.2.2.2.2.2.1.2.1, (x.2.2.2.2.2.1.2.2.1, (x.2.2.2.2.2.1.2.2.2.1, ())))), ((x.2.2.2.2.2.2.1.1, (x.2.2.2.2.2.2.1.2.1, (x.2.2.2.2.2.2.1.2.2.1, (x.2.2.2.2.2.2.1.2.2.2.1, ())))), ((x.2.2.2.2.2.2.2.1.1, (x.2.2.2.2.2.2.2.1.2.1, (x.2.2.2.2.2.2.2.1.2.2.1, (x.2.2.2.2.2.2.2.1.2.2.2.1, ())))), ()))))))))))
def Qc.p0 (k : Nat) (x : Qc.p0.σ) : Option Qc.p0.τ := Qc.p0.r k x some
def Qc.p0.T : StT := ⟨us 1 ++ .dat (.int .i64) :: .dat (.int .i64) :: .ptr 0 [] :: us 2 ++ .ptr 1 [] :: us 1 ++ .ptr 2 [] :: .dat (.int .u64) :: .dat (.int .u64) :: .dat (.int .i64) :: us 47, [.dat Qgq, .dat Qgq, .dat Qgq]⟩
def Qc.p0.os : List Out := [⟨.normal, [.mask [1, 2, 3, 6, 8, 10, 11], .auto 0], ⟨us 1 ++ .dat (.int .i64) :: .dat (.int .i64) :: .ptr 0 [] :: us 2 ++ .ptr 1 [] :: us 1 ++ .ptr 2 [] :: us 1 ++ .dat (.int .u64) :: .dat (.int .i64) :: us 47, [.dat Qgq, .dat Qgq, .dat Qgq]⟩⟩]
abbrev Qc.p1.σ : Type := Int × Int × Int × Int × Qgw × Qgw × Qgw × Unit
abbrev Qc.p1.τ : Type := Qgl 
def Qc.p1.r (k : Nat) {ρ : Type} (x : Qc.p1.σ) (K : Qc.p1.τ → Option ρ) : Option ρ :=
 bif (decide (x.2.2.2.1 > (0 : Int))) then ((Qm k (x.2.2.2.2.1.1, (x.2.2.2.2.1.2.1, (x.2.2.2.2.1.2.2.1, (x.2.2.2.2.1.2.2.2.1, ())))) x.2.2.2.1).bind fun t3 => let v4 : Int := t3.2.1
 K (x.1, (x.2.1, (v4, (x.2.2.2.1, ((t3.1.1, (t3.1.2.1, (t3.1.2.2.1, (t3.1.2.2.2.1, ())))), ((x.2.2.2.2.2.1.1, (x.2.2.2.2.2.1.2.1, (x.2.2.2.2.2.1.2.2.1, (x.2.2.2.2.2.1.2.2.2.1, ())))), ((x.2.2.2.2.2.2.1.1, (x.2.2.2.2.2.2.1.2.1, (x.2.2.2.2.2.2.1.2.2.1, (x.2.2.2.2.2.2.1.2.2.2.1, ())))), ())))))))) else (K (x.1, (x.2.1, (x.2.2.1, (x.2.2.2.1, ((x.2.2.2.2.1.1, (x.2.2.2.2.1.2.1, (x.2.2.2.2.1.2.2.1, (x.2.2.2.2.1.2.2.2.1, ())))), ((x.2.2.2.2.2.1.1, (x.2.2.2.2.2.1.2.1, (x.2.2.2.2.2.1.2.2.1, (x.2.2.2.2.2.1.2.2.2.1, ())))), ((x.2.2.2.2.2.2.1.1, (x.2.2.2.2.2.2.1.2.1, (x.2.2.2.2.2.2.1.2.2.1, (x.2.2.2.2.2.2.1.2.2.2.1, ())))), ()))))))))
def Qc.p1 (k : Nat) (x : Qc.p1.σ) : Option Qc.p1.τ := Qc.p1.r k x some
def Qc.p1.T : StT := ⟨us 1 ++ .dat (.int .i64) :: .dat (.int .i64) :: .ptr 0 [] :: us 2 ++ .ptr 1 [] :: us 1 ++ .ptr 2 [] :: us 1 ++ .dat (.int .u64) :: .dat (.int .i64) :: us 47, [.dat Qgq, .dat Qgq, .dat Qgq]⟩
def Qc.p1.os : List Out := [⟨.normal, [.mask [1, 2, 3, 6, 8, 10, 11], .auto 0], ⟨us 1 ++ .dat (.int .i64) :: .dat (.int .i64) :: .ptr 0 [] :: us 2 ++ .ptr 1 [] :: us 1 ++ .ptr 2 [] :: us 1 ++ .dat (.int .u64) :: .dat (.int .i64) :: us 47, [.dat Qgq, .dat Qgq, .dat Qgq]⟩⟩]
def Qc.c (k : Nat) {ρ : Type} (r : Qgw) (most : Int) (e : Int) (K : Qgw × Int × Unit → Option ρ) : Option ρ :=
 (Qm k (r.1, (r.2.1, (r.2.2.1, (r.2.2.2.1, ())))) (1 : Int)).bind fun t0 => let v1 : Int := t0.2.1
 (Qc.p0 k (most, (e, (v1, (v1, ((0 : Int), ((t0.1.1, (t0.1.2.1, (t0.1.2.2.1, (t0.1.2.2.2.1, ())))), (((⟨(List.toArray [])⟩ : ByteArray), ((0 : Int), ((0 : Int), ((0 : Int), ())))), ((r.1, (r.2.1, (r.2.2.1, (r.2.2.2.1, ())))), ()))))))))).bind fun t2 => (Qc.p1 k (t2.1, (t2.2.1, (t2.2.2.1, (t2.2.2.2.1, ((t2.2.2.2.2.1.1, (t2.2.2.2.2.1.2.1, (t2.2.2.2.2.1.2.2.1, (t2.2.2.2.2.1.2.2.2.1, ())))), ((t2.2.2.2.2.2.1.1, (t2.2.2.2.2.2.1.2.1, (t2.2.2.2.2.2.1.2.2.1, (t2.2.2.2.2.2.1.2.2.2.1, ())))), ((t2.2.2.2.2.2.2.1.1, (t2.2.2.2.2.2.2.1.2.1, (t2.2.2.2.2.2.2.1.2.2.1, (t2.2.2.2.2.2.2.1.2.2.2.1, ())))), ())))))))).bind fun t5 => let v6 : Int := t5.2.2.2.2.1.2.2.2.1
 bif (v6 != (0 : Int)) then (let v7 : Int := t5.2.2.2.2.2.2.1.2.2.1
 K ((t5.2.2.2.2.1.1, (t5.2.2.2.2.1.2.1, (v7, (t5.2.2.2.2.1.2.2.2.1, ())))), ((0 : Int), ()))) else ((Q00 k t5.2.2.1).bind fun t8 => let v9 : Int := (((ByteArray.size t8.1) : Nat) : Int)
 let v10 : Int := (IntKind.wrap IntKind.i64 ((1 : Int) + t5.2.2.2.1))
 bif (v9 != v10) then (K ((t5.2.2.2.2.1.1, (t5.2.2.2.2.1.2.1, (t5.2.2.2.2.1.2.2.1, ((6 : Int), ())))), ((0 : Int), ()))) else (let v11 : Int := (IntKind.wrap IntKind.u64 t5.1)
 bif (decide (t5.2.2.1 > v11)) then (K ((t5.2.2.2.2.1.1, (t5.2.2.2.2.1.2.1, (t5.2.2.2.2.1.2.2.1, (t5.2.1, ())))), ((0 : Int), ()))) else (let v12 : Int := (IntKind.wrap IntKind.i64 t5.2.2.1)
 K ((t5.2.2.2.2.1.1, (t5.2.2.2.2.1.2.1, (t5.2.2.2.2.1.2.2.1, (t5.2.2.2.2.1.2.2.2.1, ())))), (v12, ())))))
def Qc (k : Nat) (r : Qgw) (most : Int) (e : Int) : Option (Qgw × Int × Unit) := Qc.c k r most e some
def Qc.tin : List Ty := [Qgq, (.int .i64), (.int .i64)]
def Qc.tout : List Ty := [Qgq, (.int .i64)]
def Qc.sem (k : Nat) : QP := QW Qc.tin Qc.tout fun x => Qc k x.1 x.2.1 x.2.2.1
noncomputable def Qc.ctx (k : Nat) : Ctx := ⟨Tryz.prog, gam [(84, (Qm.sem k)), (77, (Q00.sem k))]⟩
theorem Qc.gok (k : Nat) : ∀ f, QF Tryz.prog f ((Qc.ctx k).Γ f) := (Qk (Qm.sem_ok k) (Qk (Q00.sem_ok k) QX))
theorem Qc.p0.is (k : Nat) : Q1O (Qc.ctx k) (QM (Func.code Tryz.f85) [1, 1, 1, 1, 1, 0]) (.nil) Qc.p0.T Qc.p0.os (Qc.p0.r k) := by
 intro ρ x K; kernel_rfl
theorem Qc.p0.ok (k : Nat) : StOK 0 Tryz.prog (QM (Func.code Tryz.f85) [1, 1, 1, 1, 1, 0]) (Qn Qc.p0.T Qc.p0.os (Qc.p0 k)) :=
 Q1F (C := Qc.ctx k) (T := Qc.p0.T) (os := Qc.p0.os) (Qc.gok k) Tryz.mix (fun x K => Qc.p0.r k x K) Q1.nil (by kernel_rfl) (by kernel_rfl) (Qc.p0.is k)
theorem Qc.p1.is (k : Nat) : Q1O (Qc.ctx k) (QM (Func.code Tryz.f85) [1, 1, 1, 1, 1, 1, 0]) (.nil) Qc.p1.T Qc.p1.os (Qc.p1.r k) := by
 intro ρ x K; kernel_rfl
theorem Qc.p1.ok (k : Nat) : StOK 0 Tryz.prog (QM (Func.code Tryz.f85) [1, 1, 1, 1, 1, 1, 0]) (Qn Qc.p1.T Qc.p1.os (Qc.p1 k)) :=
 Q1F (C := Qc.ctx k) (T := Qc.p1.T) (os := Qc.p1.os) (Qc.gok k) Tryz.mix (fun x K => Qc.p1.r k x K) Q1.nil (by kernel_rfl) (by kernel_rfl) (Qc.p1.is k)
def Qc.ann (k : Nat) : Ann := .node [] none (.nil) (.node [] none (.nil) (.node [] none (.nil) (.node [] none (.nil) (.node [] none (.nil) (.node [] none (.node [.mask [1, 2, 3, 6, 8, 9, 10, 11], .auto 0] (some (Qn Qc.p0.T Qc.p0.os (Qc.p0 k))) .nil .nil) (.node [] none (.node [.mask [1, 2, 3, 6, 8, 10, 11], .auto 0] (some (Qn Qc.p1.T Qc.p1.os (Qc.p1 k))) .nil .nil) (.nil)))))))
theorem Qc.body (k : Nat) : Q0R (Qc.ctx k) Tryz.f85 (Func.code Tryz.f85) (Qc.ann k) Qc.tin Qc.tout (fun x K => Qc.c k x.1 x.2.1 x.2.2.1 K) := by
 intro ρ x K; kernel_rfl
theorem Qc.sem_ok (k : Nat) : QF Tryz.prog 85 (Qc.sem k) :=
 QD (C := Qc.ctx k) (Qc.gok k) Tryz.mix (c := Func.code Tryz.f85) (ann := Qc.ann k) (tin := Qc.tin) (tout := Qc.tout) (fun x K => Qc.c k x.1 x.2.1 x.2.2.1 K) Tryz.func85 (by kernel_rfl) (by kernel_rfl) (Q1.seq Q1.nil (Q1.seq Q1.nil (Q1.seq Q1.nil (Q1.seq Q1.nil (Q1.seq Q1.nil (Q1.seq (Q1.loop (by kernel_rfl) (Qc.p0.ok k)) (Q1.seq (Q1.loop (by kernel_rfl) (Qc.p1.ok k)) Q1.nil))))))) (Qc.body k)
abbrev Q0.p0.σ : Type := ByteArray × Int × Qgx × Unit
abbrev Q0.p0.τ : Type := (Int × Int × Qgx × Unit) ⊕ (ByteArray × Int × Qgx × Unit)
def Q0.p0.r (k : Nat) {ρ : Type} (x : Q0.p0.σ) (K : Q0.p0.τ → Option ρ) : Option ρ :=
 bif (decide (x.2.1 < (0 : Int))) then (K (.inl ((0 : Int), ((1 : Int), (((0 : Int), ((), ((), ((0 : Int), ())))), ()))))) else (let v0 : Int := (((ByteArray.size x.1) : Nat) : Int)
 bif (decide (x.2.1 > v0)) then (K (.inl ((0 : Int), ((1 : Int), (((0 : Int), ((), ((), ((0 : Int), ())))), ()))))) else (K (.inr (x.1, (x.2.1, ((x.2.2.1.1, ((), ((), (x.2.2.1.2.2.2.1, ())))), ()))))))
def Q0.p0 (k : Nat) (x : Q0.p0.σ) : Option Q0.p0.τ := Q0.p0.r k x some
def Q0.p0.T : StT := ⟨.dat .str :: .dat (.int .i64) :: us 2 ++ .ptr 0 [] :: us 161, [.pair (.dat (.int .u32)) (.pair (.nils) (.pair (.nils) (.dat QgB)))]⟩
def Q0.p0.os : List Out := [⟨.ret, [.mask [4, 5, 6], .auto 0], ⟨us 4 ++ .ptr 0 [] :: .dat (.int .i64) :: .dat (.int .i64) :: us 159, [.pair (.dat (.int .u32)) (.pair (.nils) (.pair (.nils) (.dat QgB)))]⟩⟩, ⟨.normal, [.mask [0, 1, 4], .auto 0], ⟨.dat .str :: .dat (.int .i64) :: us 2 ++ .ptr 0 [] :: us 161, [.pair (.dat (.int .u32)) (.pair (.nils) (.pair (.nils) (.dat QgB)))]⟩⟩]
abbrev Q0.p2.σ : Type := Int × Int × Qgx × Qgw × Qgx × Qgu × Unit
abbrev Q0.p2.τ : Type := (Int × Int × Qgx × Qgw × Qgx × Qgu × Unit) ⊕ Qgk 
def Q0.p2.r (k : Nat) {ρ : Type} (x : Q0.p2.σ) (K : Q0.p2.τ → Option ρ) : Option ρ :=
 bif (decide (x.2.1 < x.1)) then (let v8 : Int := x.2.2.2.1.2.2.2.1
 bif (v8 == (0 : Int)) then (K (.inl (x.1, (x.2.1, ((x.2.2.1.1, ((), ((), (x.2.2.1.2.2.2.1, ())))), ((x.2.2.2.1.1, (x.2.2.2.1.2.1, (x.2.2.2.1.2.2.1, (x.2.2.2.1.2.2.2.1, ())))), ((x.2.2.2.2.1.1, ((), ((), (x.2.2.2.2.1.2.2.2.1, ())))), (x.2.2.2.2.2.1, ())))))))) else (K (.inr ((x.2.2.1.1, ((), ((), (x.2.2.1.2.2.2.1, ())))), ((x.2.2.2.1.1, (x.2.2.2.1.2.1, (x.2.2.2.1.2.2.1, (x.2.2.2.1.2.2.2.1, ())))), ((x.2.2.2.2.1.1, ((), ((), (x.2.2.2.2.1.2.2.2.1, ())))), (x.2.2.2.2.2.1, ()))))))) else (K (.inr ((x.2.2.1.1, ((), ((), (x.2.2.1.2.2.2.1, ())))), ((x.2.2.2.1.1, (x.2.2.2.1.2.1, (x.2.2.2.1.2.2.1, (x.2.2.2.1.2.2.2.1, ())))), ((x.2.2.2.2.1.1, ((), ((), (x.2.2.2.2.1.2.2.2.1, ())))), (x.2.2.2.2.2.1, ()))))))
def Q0.p2 (k : Nat) (x : Q0.p2.σ) : Option Q0.p2.τ := Q0.p2.r k x some
def Q0.p2.T : StT := ⟨us 4 ++ .ptr 0 [] :: us 2 ++ .ptr 1 [] :: .ptr 2 [] :: us 1 ++ .dat (.int .i64) :: .dat (.int .i64) :: us 154, [.pair (.dat (.int .u32)) (.pair (.nils) (.pair (.nils) (.dat QgB))), .dat Qgq, .pair (.dat (.int .u32)) (.pair (.vsl 3) (.pair (.nils) (.dat QgB))), .vec Qgp]⟩
def Q0.p2.os : List Out := [⟨.normal, [.mask [4, 7, 8, 10, 11], .auto 0], ⟨us 4 ++ .ptr 0 [] :: us 2 ++ .ptr 1 [] :: .ptr 2 [] :: us 1 ++ .dat (.int .i64) :: .dat (.int .i64) :: us 154, [.pair (.dat (.int .u32)) (.pair (.nils) (.pair (.nils) (.dat QgB))), .dat Qgq, .pair (.dat (.int .u32)) (.pair (.vsl 3) (.pair (.nils) (.dat QgB))), .vec Qgp]⟩⟩, ⟨(.exit 0), [.mask [4, 7, 8], .auto 0], ⟨us 4 ++ .ptr 0 [] :: us 2 ++ .ptr 1 [] :: .ptr 2 [] :: us 157, [.pair (.dat (.int .u32)) (.pair (.nils) (.pair (.nils) (.dat QgB))), .dat Qgq, .pair (.dat (.int .u32)) (.pair (.vsl 3) (.pair (.nils) (.dat QgB))), .vec Qgp]⟩⟩]
abbrev Q0.l3.σ : Type := Int × Int × ByteArray × Int × Qgx × Qgw × Qgx × Qgu × ((List Int) × (Int × (ByteArray × (Int × Unit)))) × Unit
abbrev Q0.l3.τ : Type := (Int × Int × Qgx × Qgw × Qgx × Qgu × ((List Int) × (Int × (ByteArray × (Int × Unit)))) × Unit)
def Q0.l3.r (k : Nat) {ρ : Type} (x : Q0.l3.σ) (kn : Q0.l3.σ → Option ρ) (ke : Q0.l3.τ → Option ρ) : Option ρ :=
 let v13 : Int := (((ByteArray.size x.2.2.1) : Nat) : Int)
 bif (decide (x.2.2.2.1 < v13)) then (bif (decide (((0 : Int) ≤ x.2.2.2.1) ∧ (x.2.2.2.1 < (((ByteArray.size x.2.2.1) : Nat) : Int)))) then (let v14 : Int := (Q1u x.2.2.1 (Int.toNat x.2.2.2.1))
 bif (decide (((0 : Int) ≤ x.2.2.2.1) ∧ (x.2.2.2.1 < ((32 : Nat) : Int)))) then (let v15 : Int := (IntKind.wrap IntKind.i64 (x.2.2.2.1 + (1 : Int)))
 kn (x.1, (x.2.1, (x.2.2.1, (v15, ((x.2.2.2.2.1.1, ((), ((), (x.2.2.2.2.1.2.2.2.1, ())))), ((x.2.2.2.2.2.1.1, (x.2.2.2.2.2.1.2.1, (x.2.2.2.2.2.1.2.2.1, (x.2.2.2.2.2.1.2.2.2.1, ())))), ((x.2.2.2.2.2.2.1.1, ((), ((), (x.2.2.2.2.2.2.1.2.2.2.1, ())))), (x.2.2.2.2.2.2.2.1, (((List.set x.2.2.2.2.2.2.2.2.1.1 (Int.toNat x.2.2.2.1) v14), (x.2.2.2.2.2.2.2.2.1.2.1, (x.2.2.2.2.2.2.2.2.1.2.2.1, (x.2.2.2.2.2.2.2.2.1.2.2.2.1, ())))), ())))))))))) else (none)) else (none)) else (ke (x.1, (x.2.1, ((x.2.2.2.2.1.1, ((), ((), (x.2.2.2.2.1.2.2.2.1, ())))), ((x.2.2.2.2.2.1.1, (x.2.2.2.2.2.1.2.1, (x.2.2.2.2.2.1.2.2.1, (x.2.2.2.2.2.1.2.2.2.1, ())))), ((x.2.2.2.2.2.2.1.1, ((), ((), (x.2.2.2.2.2.2.1.2.2.2.1, ())))), (x.2.2.2.2.2.2.2.1, ((x.2.2.2.2.2.2.2.2.1.1, (x.2.2.2.2.2.2.2.2.1.2.1, (x.2.2.2.2.2.2.2.2.1.2.2.1, (x.2.2.2.2.2.2.2.2.1.2.2.2.1, ())))), ()))))))))
def Q0.l3 (k : Nat) : Nat → Q0.l3.σ → Option Q0.l3.τ := Q14 (Q0.l3.r k)
def Q0.l3.T : StT := ⟨us 4 ++ .ptr 0 [] :: us 2 ++ .ptr 1 [] :: .ptr 2 [] :: us 1 ++ .dat (.int .i64) :: .dat (.int .i64) :: .ptr 4 [] :: .dat .str :: .dat (.int .i64) :: us 151, [.pair (.dat (.int .u32)) (.pair (.nils) (.pair (.nils) (.dat QgB))), .dat Qgq, .pair (.dat (.int .u32)) (.pair (.vsl 3) (.pair (.nils) (.dat QgB))), .vec Qgp, .dat Qgp]⟩
def Q0.l3.os : List Out := [⟨(.exit 2), [.mask [4, 7, 8, 10, 11, 12], .auto 0], ⟨us 4 ++ .ptr 0 [] :: us 2 ++ .ptr 1 [] :: .ptr 2 [] :: us 1 ++ .dat (.int .i64) :: .dat (.int .i64) :: .ptr 4 [] :: us 153, [.pair (.dat (.int .u32)) (.pair (.nils) (.pair (.nils) (.dat QgB))), .dat Qgq, .pair (.dat (.int .u32)) (.pair (.vsl 3) (.pair (.nils) (.dat QgB))), .vec Qgp, .dat Qgp]⟩⟩]
abbrev Q0.l1.σ : Type := Int × Int × Qgx × Qgw × Qgx × Qgu × Unit
abbrev Q0.l1.τ : Type := Qgk 
def Q0.l1.r (k : Nat) {ρ : Type} (x : Q0.l1.σ) (kn : Q0.l1.σ → Option ρ) (ke : Q0.l1.τ → Option ρ) : Option ρ :=
 (Q0.p2 k (x.1, (x.2.1, ((x.2.2.1.1, ((), ((), (x.2.2.1.2.2.2.1, ())))), ((x.2.2.2.1.1, (x.2.2.2.1.2.1, (x.2.2.2.1.2.2.1, (x.2.2.2.1.2.2.2.1, ())))), ((x.2.2.2.2.1.1, ((), ((), (x.2.2.2.2.1.2.2.2.1, ())))), (x.2.2.2.2.2.1, ()))))))).bind fun t9 => (match t9 with | .inl t10 => ((Q0d k (t10.2.2.2.1.1, (t10.2.2.2.1.2.1, (t10.2.2.2.1.2.2.1, (t10.2.2.2.1.2.2.2.1, ())))) (32 : Int)).bind fun t11 => let v12 : ByteArray := t11.2.1
 (Q0.l3 k k (t10.1, (t10.2.1, (v12, ((0 : Int), ((t10.2.2.1.1, ((), ((), (t10.2.2.1.2.2.2.1, ())))), ((t11.1.1, (t11.1.2.1, (t11.1.2.2.1, (t11.1.2.2.2.1, ())))), ((t10.2.2.2.2.1.1, ((), ((), (t10.2.2.2.2.1.2.2.2.1, ())))), (t10.2.2.2.2.2.1, (((List.replicate 32 (0 : Int)), ((0 : Int), ((⟨(List.toArray [])⟩ : ByteArray), ((0 : Int), ())))), ())))))))))).bind fun t16 => (Qm k (t16.2.2.2.1.1, (t16.2.2.2.1.2.1, (t16.2.2.2.1.2.2.1, (t16.2.2.2.1.2.2.2.1, ())))) (4 : Int)).bind fun t17 => let v18 : Int := t17.2.1
 (Qc k (t17.1.1, (t17.1.2.1, (t17.1.2.2.1, (t17.1.2.2.2.1, ())))) (520 : Int) (100 : Int)).bind fun t19 => let v20 : Int := t19.2.1
 (Q0d k (t19.1.1, (t19.1.2.1, (t19.1.2.2.1, (t19.1.2.2.2.1, ())))) v20).bind fun t21 => let v22 : ByteArray := t21.2.1
 (Qm k (t21.1.1, (t21.1.2.1, (t21.1.2.2.1, (t21.1.2.2.2.1, ())))) (4 : Int)).bind fun t23 => let v24 : Int := t23.2.1
 bif (Nat.ble (((List.length t16.2.2.2.2.2.1) + (List.length (List.set (List.replicate 1 ((List.replicate 32 (0 : Int)), ((0 : Int), (ByteArray.empty, ((0 : Int), ()))))) 0 (t16.2.2.2.2.2.2.1.1, ((IntKind.wrap IntKind.u32 v18), (v22, ((IntKind.wrap IntKind.u32 v24), ()))))))) * 64) 140737488355328) then (let v25 : Int := (IntKind.wrap IntKind.i64 (t16.2.1 + (1 : Int)))
 kn (t16.1, (v25, ((t16.2.2.1.1, ((), ((), (t16.2.2.1.2.2.2.1, ())))), ((t23.1.1, (t23.1.2.1, (t23.1.2.2.1, (t23.1.2.2.2.1, ())))), ((t16.2.2.2.2.1.1, ((), ((), (t16.2.2.2.2.1.2.2.2.1, ())))), ((t16.2.2.2.2.2.1 ++ (List.set (List.replicate 1 ((List.replicate 32 (0 : Int)), ((0 : Int), (ByteArray.empty, ((0 : Int), ()))))) 0 (t16.2.2.2.2.2.2.1.1, ((IntKind.wrap IntKind.u32 v18), (v22, ((IntKind.wrap IntKind.u32 v24), ())))))), ()))))))) else (none)) | .inr (t26) => (ke ((t26.1.1, ((), ((), (t26.1.2.2.2.1, ())))), ((t26.2.1.1, (t26.2.1.2.1, (t26.2.1.2.2.1, (t26.2.1.2.2.2.1, ())))), ((t26.2.2.1.1, ((), ((), (t26.2.2.1.2.2.2.1, ())))), (t26.2.2.2.1, ()))))))
def Q0.l1 (k : Nat) : Nat → Q0.l1.σ → Option Q0.l1.τ := Q14 (Q0.l1.r k)
def Q0.l1.T : StT := ⟨us 4 ++ .ptr 0 [] :: us 2 ++ .ptr 1 [] :: .ptr 2 [] :: us 1 ++ .dat (.int .i64) :: .dat (.int .i64) :: us 154, [.pair (.dat (.int .u32)) (.pair (.nils) (.pair (.nils) (.dat QgB))), .dat Qgq, .pair (.dat (.int .u32)) (.pair (.vsl 3) (.pair (.nils) (.dat QgB))), .vec Qgp]⟩
def Q0.l1.os : List Out := [⟨(.exit 0), [.mask [4, 7, 8], .auto 0], ⟨us 4 ++ .ptr 0 [] :: us 2 ++ .ptr 1 [] :: .ptr 2 [] :: us 157, [.pair (.dat (.int .u32)) (.pair (.nils) (.pair (.nils) (.dat QgB))), .dat Qgq, .pair (.dat (.int .u32)) (.pair (.vsl 3) (.pair (.nils) (.dat QgB))), .vec Qgp]⟩⟩]
abbrev Q0.p5.σ : Type := Int × Int × Qgx × Qgw × Qgx × Qgu × QgA × Unit
abbrev Q0.p5.τ : Type := (Int × Int × Qgx × Qgw × Qgx × Qgu × QgA × Unit) ⊕ Qgi 
def Q0.p5.r (k : Nat) {ρ : Type} (x : Q0.p5.σ) (K : Q0.p5.τ → Option ρ) : Option ρ :=
 bif (decide (x.2.1 < x.1)) then (let v30 : Int := x.2.2.2.1.2.2.2.1
 bif (v30 == (0 : Int)) then (K (.inl (x.1, (x.2.1, ((x.2.2.1.1, ((), ((), (x.2.2.1.2.2.2.1, ())))), ((x.2.2.2.1.1, (x.2.2.2.1.2.1, (x.2.2.2.1.2.2.1, (x.2.2.2.1.2.2.2.1, ())))), ((x.2.2.2.2.1.1, ((), ((), (x.2.2.2.2.1.2.2.2.1, ())))), (x.2.2.2.2.2.1, (x.2.2.2.2.2.2.1, ()))))))))) else (K (.inr ((x.2.2.1.1, ((), ((), (x.2.2.1.2.2.2.1, ())))), ((x.2.2.2.1.1, (x.2.2.2.1.2.1, (x.2.2.2.1.2.2.1, (x.2.2.2.1.2.2.2.1, ())))), ((x.2.2.2.2.1.1, ((), ((), (x.2.2.2.2.1.2.2.2.1, ())))), (x.2.2.2.2.2.1, (x.2.2.2.2.2.2.1, ())))))))) else (K (.inr ((x.2.2.1.1, ((), ((), (x.2.2.1.2.2.2.1, ())))), ((x.2.2.2.1.1, (x.2.2.2.1.2.1, (x.2.2.2.1.2.2.1, (x.2.2.2.1.2.2.2.1, ())))), ((x.2.2.2.2.1.1, ((), ((), (x.2.2.2.2.1.2.2.2.1, ())))), (x.2.2.2.2.2.1, (x.2.2.2.2.2.2.1, ())))))))
def Q0.p5 (k : Nat) (x : Q0.p5.σ) : Option Q0.p5.τ := Q0.p5.r k x some
def Q0.p5.T : StT := ⟨us 4 ++ .ptr 0 [] :: us 2 ++ .ptr 1 [] :: .ptr 2 [] :: us 7 ++ .dat (.int .i64) :: .dat (.int .i64) :: us 148, [.pair (.dat (.int .u32)) (.pair (.nils) (.pair (.nils) (.dat QgB))), .dat Qgq, .pair (.dat (.int .u32)) (.pair (.vsl 3) (.pair (.vsl 4) (.dat QgB))), .vec Qgp, .vec Qgy]⟩
def Q0.p5.os : List Out := [⟨.normal, [.mask [4, 7, 8, 16, 17], .auto 0], ⟨us 4 ++ .ptr 0 [] :: us 2 ++ .ptr 1 [] :: .ptr 2 [] :: us 7 ++ .dat (.int .i64) :: .dat (.int .i64) :: us 148, [.pair (.dat (.int .u32)) (.pair (.nils) (.pair (.nils) (.dat QgB))), .dat Qgq, .pair (.dat (.int .u32)) (.pair (.vsl 3) (.pair (.vsl 4) (.dat QgB))), .vec Qgp, .vec Qgy]⟩⟩, ⟨(.exit 4), [.mask [4, 7, 8], .auto 0], ⟨us 4 ++ .ptr 0 [] :: us 2 ++ .ptr 1 [] :: .ptr 2 [] :: us 157, [.pair (.dat (.int .u32)) (.pair (.nils) (.pair (.nils) (.dat QgB))), .dat Qgq, .pair (.dat (.int .u32)) (.pair (.vsl 3) (.pair (.vsl 4) (.dat QgB))), .vec Qgp, .vec Qgy]⟩⟩]
abbrev Q0.l4.σ : Type := Int × Int × Qgx × Qgw × Qgx × Qgu × QgA × Unit
abbrev Q0.l4.τ : Type := Qgi 
def Q0.l4.r (k : Nat) {ρ : Type} (x : Q0.l4.σ) (kn : Q0.l4.σ → Option ρ) (ke : Q0.l4.τ → Option ρ) : Option ρ :=
 (Q0.p5 k (x.1, (x.2.1, ((x.2.2.1.1, ((), ((), (x.2.2.1.2.2.2.1, ())))), ((x.2.2.2.1.1, (x.2.2.2.1.2.1, (x.2.2.2.1.2.2.1, (x.2.2.2.1.2.2.2.1, ())))), ((x.2.2.2.2.1.1, ((), ((), (x.2.2.2.2.1.2.2.2.1, ())))), (x.2.2.2.2.2.1, (x.2.2.2.2.2.2.1, ())))))))).bind fun t31 => (match t31 with | .inl t32 => ((Qm k (t32.2.2.2.1.1, (t32.2.2.2.1.2.1, (t32.2.2.2.1.2.2.1, (t32.2.2.2.1.2.2.2.1, ())))) (8 : Int)).bind fun t33 => let v34 : Int := t33.2.1
 (Qc k (t33.1.1, (t33.1.2.1, (t33.1.2.2.1, (t33.1.2.2.2.1, ())))) (520 : Int) (100 : Int)).bind fun t35 => let v36 : Int := t35.2.1
 (Q0d k (t35.1.1, (t35.1.2.1, (t35.1.2.2.1, (t35.1.2.2.2.1, ())))) v36).bind fun t37 => let v38 : ByteArray := t37.2.1
 bif (Nat.ble (((List.length t32.2.2.2.2.2.2.1) + (List.length (List.set (List.replicate 1 ((0 : Int), (ByteArray.empty, ()))) 0 (v34, (v38, ()))))) * 24) 140737488355328) then (let v39 : Int := (IntKind.wrap IntKind.i64 (t32.2.1 + (1 : Int)))
 kn (t32.1, (v39, ((t32.2.2.1.1, ((), ((), (t32.2.2.1.2.2.2.1, ())))), ((t37.1.1, (t37.1.2.1, (t37.1.2.2.1, (t37.1.2.2.2.1, ())))), ((t32.2.2.2.2.1.1, ((), ((), (t32.2.2.2.2.1.2.2.2.1, ())))), (t32.2.2.2.2.2.1, ((t32.2.2.2.2.2.2.1 ++ (List.set (List.replicate 1 ((0 : Int), (ByteArray.empty, ()))) 0 (v34, (v38, ())))), ())))))))) else (none)) | .inr (t40) => (ke ((t40.1.1, ((), ((), (t40.1.2.2.2.1, ())))), ((t40.2.1.1, (t40.2.1.2.1, (t40.2.1.2.2.1, (t40.2.1.2.2.2.1, ())))), ((t40.2.2.1.1, ((), ((), (t40.2.2.1.2.2.2.1, ())))), (t40.2.2.2.1, (t40.2.2.2.2.1, ())))))))
def Q0.l4 (k : Nat) : Nat → Q0.l4.σ → Option Q0.l4.τ := Q14 (Q0.l4.r k)
def Q0.l4.T : StT := ⟨us 4 ++ .ptr 0 [] :: us 2 ++ .ptr 1 [] :: .ptr 2 [] :: us 7 ++ .dat (.int .i64) :: .dat (.int .i64) :: us 148, [.pair (.dat (.int .u32)) (.pair (.nils) (.pair (.nils) (.dat QgB))), .dat Qgq, .pair (.dat (.int .u32)) (.pair (.vsl 3) (.pair (.vsl 4) (.dat QgB))), .vec Qgp, .vec Qgy]⟩
def Q0.l4.os : List Out := [⟨(.exit 4), [.mask [4, 7, 8], .auto 0], ⟨us 4 ++ .ptr 0 [] :: us 2 ++ .ptr 1 [] :: .ptr 2 [] :: us 157, [.pair (.dat (.int .u32)) (.pair (.nils) (.pair (.nils) (.dat QgB))), .dat Qgq, .pair (.dat (.int .u32)) (.pair (.vsl 3) (.pair (.vsl 4) (.dat QgB))), .vec Qgp, .vec Qgy]⟩⟩]
def Q0.c (k : Nat) {ρ : Type} (s : ByteArray) (at_1 : Int) (K : Qgn × Int × Int × Unit → Option ρ) : Option ρ :=
 (Q0.p0 k (s, (at_1, (((0 : Int), ((), ((), ((0 : Int), ())))), ())))).bind fun t1 => (match t1 with | .inl t2 => (K ((t2.2.2.1.1, ([], ([], (t2.2.2.1.2.2.2.1, ())))), (t2.1, (t2.2.1, ())))) | .inr (t3) => ((Qm k (t3.1, (t3.2.1, (t3.2.1, ((0 : Int), ())))) (4 : Int)).bind fun t4 => let v5 : Int := t4.2.1
 (Qc k (t4.1.1, (t4.1.2.1, (t4.1.2.2.1, (t4.1.2.2.2.1, ())))) (4096 : Int) (5 : Int)).bind fun t6 => let v7 : Int := t6.2.1
 (Q0.l1 k k (v7, ((0 : Int), ((t3.2.2.1.1, ((), ((), (t3.2.2.1.2.2.2.1, ())))), ((t6.1.1, (t6.1.2.1, (t6.1.2.2.1, (t6.1.2.2.2.1, ())))), (((IntKind.wrap IntKind.u32 v5), ((), ((), ((0 : Int), ())))), ([], ()))))))).bind fun t27 => (Qc k (t27.2.1.1, (t27.2.1.2.1, (t27.2.1.2.2.1, (t27.2.1.2.2.2.1, ())))) (4096 : Int) (5 : Int)).bind fun t28 => let v29 : Int := t28.2.1
 (Q0.l4 k k (v29, ((0 : Int), ((t27.1.1, ((), ((), (t27.1.2.2.2.1, ())))), ((t28.1.1, (t28.1.2.1, (t28.1.2.2.1, (t28.1.2.2.2.1, ())))), ((t27.2.2.1.1, ((), ((), (t27.2.2.1.2.2.2.1, ())))), (t27.2.2.2.1, ([], ())))))))).bind fun t41 => (Qm k (t41.2.1.1, (t41.2.1.2.1, (t41.2.1.2.2.1, (t41.2.1.2.2.2.1, ())))) (4 : Int)).bind fun t42 => let v43 : Int := t42.2.1
 let v44 : Int := t42.1.2.2.2.1
 bif (v44 != (0 : Int)) then (let v45 : Int := t42.1.2.2.2.1
 K (((0 : Int), ([], ([], ((0 : Int), ())))), ((0 : Int), (v45, ())))) else (let v46 : Int := t42.1.2.2.1
 K ((t41.2.2.1.1, (t41.2.2.2.1, (t41.2.2.2.2.1, ((IntKind.wrap IntKind.u32 v43), ())))), (v46, ((0 : Int), ()))))))
def Q0 (k : Nat) (s : ByteArray) (at_1 : Int) : Option (Qgn × Int × Int × Unit) := Q0.c k s at_1 some
def Q0.tin : List Ty := [.str, (.int .i64)]
def Q0.tout : List Ty := [(.pair (.int .u32) (.pair (.sl Qgp) Qgr)), (.int .i64), (.int .i64)]
def Q0.sem (k : Nat) : QP := QW Q0.tin Q0.tout fun x => Q0 k x.1 x.2.1
noncomputable def Q0.ctx (k : Nat) : Ctx := ⟨Tryz.prog, gam [(84, (Qm.sem k)), (85, (Qc.sem k)), (86, (Q0d.sem k))]⟩
theorem Q0.gok (k : Nat) : ∀ f, QF Tryz.prog f ((Q0.ctx k).Γ f) := (Qk (Qm.sem_ok k) (Qk (Qc.sem_ok k) (Qk (Q0d.sem_ok k) QX)))
theorem Q0.p0.is (k : Nat) : Q1O (Q0.ctx k) (QM (Func.code Tryz.f52) [1, 0]) (.nil) Q0.p0.T Q0.p0.os (Q0.p0.r k) := by
 intro ρ x K; kernel_rfl
theorem Q0.p0.ok (k : Nat) : StOK 0 Tryz.prog (QM (Func.code Tryz.f52) [1, 0]) (Qn Q0.p0.T Q0.p0.os (Q0.p0 k)) :=
 Q1F (C := Q0.ctx k) (T := Q0.p0.T) (os := Q0.p0.os) (Q0.gok k) Tryz.mix (fun x K => Q0.p0.r k x K) Q1.nil (by kernel_rfl) (by kernel_rfl) (Q0.p0.is k)
theorem Q0.p2.is (k : Nat) : Q1O (Q0.ctx k) (QM (Func.code Tryz.f52) [1, 1, 1, 1, 1, 1, 1, 0, 1, 0, 0, 0]) (.nil) Q0.p2.T Q0.p2.os (Q0.p2.r k) := by
 intro ρ x K; kernel_rfl
theorem Q0.p2.ok (k : Nat) : StOK 0 Tryz.prog (QM (Func.code Tryz.f52) [1, 1, 1, 1, 1, 1, 1, 0, 1, 0, 0, 0]) (Qn Q0.p2.T Q0.p2.os (Q0.p2 k)) :=
 Q1F (C := Q0.ctx k) (T := Q0.p2.T) (os := Q0.p2.os) (Q0.gok k) Tryz.mix (fun x K => Q0.p2.r k x K) Q1.nil (by kernel_rfl) (by kernel_rfl) (Q0.p2.is k)
theorem Q0.l3.round (k : Nat) : Q10 (Q0.ctx k) (QM (Func.code Tryz.f52) [1, 1, 1, 1, 1, 1, 1, 0, 1, 0, 0, 1, 0, 0, 1, 1, 1, 0, 1, 0, 0]) (.nil) Q0.l3.T [.mask [4, 7, 8, 10, 11, 12, 13, 14], .auto 0] Q0.l3.os (Q0.l3.r k) := by
 intro ρ x kn ke; kernel_rfl
theorem Q0.l3.ok (k : Nat) : StOK 0 Tryz.prog (.loop (QM (Func.code Tryz.f52) [1, 1, 1, 1, 1, 1, 1, 0, 1, 0, 0, 1, 0, 0, 1, 1, 1, 0, 1, 0, 0])) (Qn Q0.l3.T Q0.l3.os (Q0.l3 k k)) :=
 Q11 (C := Q0.ctx k) (Q0.gok k) Tryz.mix Q1.nil (by kernel_rfl) (by kernel_rfl) (by kernel_rfl) (Q0.l3.round k) k
theorem Q0.l1.round (k : Nat) : Q10 (Q0.ctx k) (QM (Func.code Tryz.f52) [1, 1, 1, 1, 1, 1, 1, 0, 1, 0, 0]) (.node [] none (.node [.mask [4, 7, 8, 10, 11], .auto 0] (some (Qn Q0.p2.T Q0.p2.os (Q0.p2 k))) .nil .nil) (.node [] none (.node [] none (.node [] none (.nil) (.node [] none (.nil) (.node [] none (.nil) (.node [] none (.node [] none (.nil) (.node [] none (.node [.mask [4, 7, 8, 10, 11, 12, 13, 14], .auto 0] (some (Qn Q0.l3.T Q0.l3.os (Q0.l3 k k))) .nil .nil) (.nil))) (.nil))))) (.nil)) (.nil))) Q0.l1.T [.mask [4, 7, 8, 10, 11], .auto 0] Q0.l1.os (Q0.l1.r k) := by
 intro ρ x kn ke; kernel_rfl
theorem Q0.l1.ok (k : Nat) : StOK 0 Tryz.prog (.loop (QM (Func.code Tryz.f52) [1, 1, 1, 1, 1, 1, 1, 0, 1, 0, 0])) (Qn Q0.l1.T Q0.l1.os (Q0.l1 k k)) :=
 Q11 (C := Q0.ctx k) (Q0.gok k) Tryz.mix (Q1.seq (Q1.loop (by kernel_rfl) (Q0.p2.ok k)) (Q1.seq (Q1.block (Q1.seq Q1.nil (Q1.seq Q1.nil (Q1.seq Q1.nil (Q1.seq (Q1.seq Q1.nil (Q1.block (Q1.loop (by kernel_rfl) (Q0.l3.ok k)))) Q1.nil))))) Q1.nil)) (by kernel_rfl) (by kernel_rfl) (by kernel_rfl) (Q0.l1.round k) k
theorem Q0.p5.is (k : Nat) : Q1O (Q0.ctx k) (QM (Func.code Tryz.f52) [1, 1, 1, 1, 1, 1, 1, 1, 1, 0, 1, 0, 0, 0]) (.nil) Q0.p5.T Q0.p5.os (Q0.p5.r k) := by
 intro ρ x K; kernel_rfl
theorem Q0.p5.ok (k : Nat) : StOK 0 Tryz.prog (QM (Func.code Tryz.f52) [1, 1, 1, 1, 1, 1, 1, 1, 1, 0, 1, 0, 0, 0]) (Qn Q0.p5.T Q0.p5.os (Q0.p5 k)) :=
 Q1F (C := Q0.ctx k) (T := Q0.p5.T) (os := Q0.p5.os) (Q0.gok k) Tryz.mix (fun x K => Q0.p5.r k x K) Q1.nil (by kernel_rfl) (by kernel_rfl) (Q0.p5.is k)
theorem Q0.l4.round (k : Nat) : Q10 (Q0.ctx k) (QM (Func.code Tryz.f52) [1, 1, 1, 1, 1, 1, 1, 1, 1, 0, 1, 0, 0]) (.node [] none (.node [.mask [4, 7, 8, 16, 17], .auto 0] (some (Qn Q0.p5.T Q0.p5.os (Q0.p5 k))) .nil .nil) (.nil)) Q0.l4.T [.mask [4, 7, 8, 16, 17], .auto 0] Q0.l4.os (Q0.l4.r k) := by
 intro ρ x kn ke; kernel_rfl
theorem Q0.l4.ok (k : Nat) : StOK 0 Tryz.prog (.loop (QM (Func.code Tryz.f52) [1, 1, 1, 1, 1, 1, 1, 1, 1, 0, 1, 0, 0])) (Qn Q0.l4.T Q0.l4.os (Q0.l4 k k)) :=
 Q11 (C := Q0.ctx k) (Q0.gok k) Tryz.mix (Q1.seq (Q1.loop (by kernel_rfl) (Q0.p5.ok k)) Q1.nil) (by kernel_rfl) (by kernel_rfl) (by kernel_rfl) (Q0.l4.round k) k
def Q0.ann (k : Nat) : Ann := .node [] none (.nil) (.node [] none (.node [.mask [0, 1, 4], .auto 0] (some (Qn Q0.p0.T Q0.p0.os (Q0.p0 k))) .nil .nil) (.node [] none (.nil) (.node [] none (.nil) (.node [] none (.nil) (.node [] none (.nil) (.node [] none (.nil) (.node [] none (.node [] none (.nil) (.node [] none (.node [.mask [4, 7, 8, 10, 11], .auto 0, .own (.blk 2 [1]) Qgp] (some (Qn Q0.l1.T Q0.l1.os (Q0.l1 k k))) .nil .nil) (.nil))) (.node [] none (.nil) (.node [] none (.node [] none (.nil) (.node [] none (.node [.mask [4, 7, 8, 16, 17], .auto 0, .own (.blk 2 [2]) Qgy] (some (Qn Q0.l4.T Q0.l4.os (Q0.l4 k k))) .nil .nil) (.nil))) (.nil))))))))))
theorem Q0.body (k : Nat) : Q0R (Q0.ctx k) Tryz.f52 (Func.code Tryz.f52) (Q0.ann k) Q0.tin Q0.tout (fun x K => Q0.c k x.1 x.2.1 K) := by
 intro ρ x K; kernel_rfl
theorem Q0.sem_ok (k : Nat) : QF Tryz.prog 52 (Q0.sem k) :=
 QD (C := Q0.ctx k) (Q0.gok k) Tryz.mix (c := Func.code Tryz.f52) (ann := Q0.ann k) (tin := Q0.tin) (tout := Q0.tout) (fun x K => Q0.c k x.1 x.2.1 K) Tryz.func52 (by kernel_rfl) (by kernel_rfl) (Q1.seq Q1.nil (Q1.seq (Q1.loop (by kernel_rfl) (Q0.p0.ok k)) (Q1.seq Q1.nil (Q1.seq Q1.nil (Q1.seq Q1.nil (Q1.seq Q1.nil (Q1.seq Q1.nil (Q1.seq (Q1.seq Q1.nil (Q1.block (Q1.loop (by kernel_rfl) (Q0.l1.ok k)))) (Q1.seq Q1.nil (Q1.seq (Q1.seq Q1.nil (Q1.block (Q1.loop (by kernel_rfl) (Q0.l4.ok k)))) Q1.nil)))))))))) (Q0.body k)
end Go.Am
