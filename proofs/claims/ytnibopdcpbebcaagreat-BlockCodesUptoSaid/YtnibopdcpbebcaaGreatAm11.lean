/- A part of a proof: a machine of abstract values that tells what functions of the program compute, and the plain facts on them. -/
import Derived.Test.YtnibopdcpbebcaaGreatAm10
import Derived.KernelRfl
set_option linter.unusedVariables false
set_option linter.unusedSimpArgs false
set_option linter.unnecessarySimpa false
set_option linter.unusedSectionVars false
namespace Go.Am
abbrev QhX : Ty := (.pair (.int .u32) .unit)
abbrev QhW : Type := (List (Int × (ByteArray × Unit)))
abbrev QhV : Type := (ByteArray × (Int × (Int × Unit)))
abbrev QhU : Ty := (.pair (.int .u64) (.pair .str .unit))
abbrev QhT : Type := (Int × (Unit × (Unit × (Int × Unit))))
abbrev QhS : Type := (ByteArray × (Int × (Int × (Int × Unit))))
abbrev QhR : Type := (Int ×  QhV  × Unit)
abbrev QhQ : Type := (List ((List Int) × (Int × (ByteArray × (Int × Unit)))))
abbrev QhP : Ty := (.pair .str (.pair (.int .i64) (.pair (.int .i64) .unit)))
abbrev QhO : Type := (List (((List Int) × (Int × Unit)) × (ByteArray × (Int × Unit))))
abbrev QhN : Ty := (.pair (.sl  QhU )  QhX )
abbrev QhM : Ty := (.pair .str (.pair (.int .i64) (.pair (.int .i64) (.pair (.int .i64) .unit))))
abbrev QhL : Ty := (.pair (.arr 32 (.int .u8)) (.pair (.int .u32) (.pair .str  QhX )))
abbrev QhK : Ty := (.pair (.pair (.arr 32 (.int .u8))  QhX ) (.pair .str  QhX ))
abbrev QhJ : Type := (Int × ( QhQ  × ( QhW  × (Int × Unit))))
abbrev QhI : Type := (Int × ( QhO  × ( QhW  × (Int × Unit))))
abbrev QhH : Type := (Int × Int × Int × Int ×  QhS  ×  QhS  ×  QhS  × Unit)
abbrev QhG : Type := ( QhT  ×  QhS  ×  QhT  ×  QhQ  × Unit)
abbrev QhF : Type := ( QhT  ×  QhS  ×  QhT  ×  QhO  × Unit)
abbrev QhE : Type := ( QhT  ×  QhS  ×  QhT  ×  QhQ  ×  QhW  × Unit)
abbrev QhD : Type := ( QhT  ×  QhS  ×  QhT  ×  QhO  ×  QhW  × Unit)
end Go.Am
namespace Go.Am
open Go Go.Proofs
set_option maxRecDepth 100000
abbrev Q07.τ : Type := (ByteArray × QhS × Unit)
def Q07.c (k : Nat) {ρ : Type} (n : Int) (b0 : QhS) (K : Q07.τ → Option ρ) : Option ρ :=
 let v0 : Int := b0.2.2.2.1
 bif (v0 != (0 : Int)) then (K ((⟨(List.toArray [])⟩ : ByteArray), ((b0.1, (b0.2.1, (b0.2.2.1, (b0.2.2.2.1, ())))), ()))) else (let v1 : Int := b0.2.2.1
 let v2 : Int := b0.2.1
 let v3 : Int := (IntKind.wrap IntKind.i64 (v1 - v2))
 let v4 : Int := (IntKind.wrap IntKind.i64 ((4096 : Int) - v3))
 bif (decide (n > v4)) then (K ((⟨(List.toArray [])⟩ : ByteArray), ((b0.1, (b0.2.1, (b0.2.2.1, ((101 : Int), ())))), ()))) else (let v5 : ByteArray := b0.1
 let v6 : Int := b0.2.2.1
 let v7 : Int := (IntKind.wrap IntKind.i64 ((((ByteArray.size v5) : Nat) : Int) - v6))
 bif (decide (n > v7)) then (K ((⟨(List.toArray [])⟩ : ByteArray), ((b0.1, (b0.2.1, (b0.2.2.1, ((4 : Int), ())))), ()))) else (let v8 : Int := b0.2.2.1
 let v9 : Int := (IntKind.wrap IntKind.i64 (v8 + n))
 let v10 : ByteArray := b0.1
 let v11 : Int := (IntKind.wrap IntKind.i64 (v9 - n))
 bif (decide (((0 : Int) ≤ v11) ∧ ((v11 ≤ v9) ∧ (v9 ≤ (((ByteArray.size v10) : Nat) : Int))))) then (K ((ByteArray.extract v10 (Int.toNat v11) (Int.toNat v9)), ((b0.1, (b0.2.1, (v9, (b0.2.2.2.1, ())))), ()))) else (none))))
def Q07 (k : Nat) (n : Int) (b0 : QhS) : Option Q07.τ := Q07.c k n b0 some
def Q07.T : Q27 := ⟨[.ptr 0 [], .dat (.int .i64)], [.dat QhM], 1⟩
def Q07.os : List Out := [⟨.ret, [.freeze (.slot 0), .auto 1], ⟨[.dat .str], [.dat QhM]⟩⟩]
def Q07.sem (k : Nat) : QT := Q2j Q07.T Q07.os fun x => Q07 k x.1 x.2.1
noncomputable def Q07.ctx (k : Nat) : Ctx := ⟨Tryz.prog, gam []⟩
theorem Q07.gok (k : Nat) : ∀ f, QI Tryz.prog f ((Q07.ctx k).Γ f) := Q01
def Q07.ann (k : Nat) : Ann := .nil
theorem Q07.body (k : Nat) : Q2k (Q07.ctx k) Tryz.f81 (Func.code Tryz.f81) (Q07.ann k) Q07.T Q07.os (fun x K => Q07.c k x.1 x.2.1 K) := by
 intro ρ x K; kernel_rfl
theorem Q07.sem_ok (k : Nat) : QI Tryz.prog 81 (Q07.sem k) :=
 Q1G (C := Q07.ctx k) (Q07.gok k) Tryz.mix (c := Func.code Tryz.f81) (ann := Q07.ann k) (T := Q07.T) (os := Q07.os) (fun x K => Q07.c k x.1 x.2.1 K) Tryz.func81 (by kernel_rfl) (by kernel_rfl) Q1.nil (Q07.body k) (by kernel_rfl) (by kernel_rfl) (by kernel_rfl)
abbrev Q0A.τ : Type := (QhV × Unit)
def Q0A.c (k : Nat) {ρ : Type} (s : ByteArray) (K : Q0A.τ → Option ρ) : Option ρ :=
 K ((s, ((0 : Int), ((0 : Int), ()))), ())
def Q0A (k : Nat) (s : ByteArray) : Option Q0A.τ := Q0A.c k s some
def Q0A.T : Q27 := ⟨[.dat .str], [], 0⟩
def Q0A.os : List Out := [⟨.ret, [.auto 0], ⟨[.ptr 0 []], [.dat QhP]⟩⟩]
def Q0A.sem (k : Nat) : QT := Q2j Q0A.T Q0A.os fun x => Q0A k x.1
noncomputable def Q0A.ctx (k : Nat) : Ctx := ⟨Tryz.prog, gam []⟩
theorem Q0A.gok (k : Nat) : ∀ f, QI Tryz.prog f ((Q0A.ctx k).Γ f) := Q01
def Q0A.ann (k : Nat) : Ann := .nil
theorem Q0A.body (k : Nat) : Q2k (Q0A.ctx k) Tryz.f27 (Func.code Tryz.f27) (Q0A.ann k) Q0A.T Q0A.os (fun x K => Q0A.c k x.1 K) := by
 intro ρ x K; kernel_rfl
theorem Q0A.sem_ok (k : Nat) : QI Tryz.prog 27 (Q0A.sem k) :=
 Q1G (C := Q0A.ctx k) (Q0A.gok k) Tryz.mix (c := Func.code Tryz.f27) (ann := Q0A.ann k) (T := Q0A.T) (os := Q0A.os) (fun x K => Q0A.c k x.1 K) Tryz.func27 (by kernel_rfl) (by kernel_rfl) Q1.nil (Q0A.body k) (by kernel_rfl) (by kernel_rfl) (by kernel_rfl)
abbrev Q0n.τ : Type := QhR 
def Q0n.c (k : Nat) {ρ : Type} (b0 : QhV) (K : Q0n.τ → Option ρ) : Option ρ :=
 let v0 : Int := b0.2.2.1
 K (v0, ((b0.1, (b0.2.1, (b0.2.2.1, ()))), ()))
def Q0n (k : Nat) (b0 : QhV) : Option Q0n.τ := Q0n.c k b0 some
def Q0n.T : Q27 := ⟨[.ptr 0 []], [.dat QhP], 1⟩
def Q0n.os : List Out := [⟨.ret, [.freeze (.slot 0), .auto 1], ⟨[.dat (.int .i64)], [.dat QhP]⟩⟩]
def Q0n.sem (k : Nat) : QT := Q2j Q0n.T Q0n.os fun x => Q0n k x.1
noncomputable def Q0n.ctx (k : Nat) : Ctx := ⟨Tryz.prog, gam []⟩
theorem Q0n.gok (k : Nat) : ∀ f, QI Tryz.prog f ((Q0n.ctx k).Γ f) := Q01
def Q0n.ann (k : Nat) : Ann := .nil
theorem Q0n.body (k : Nat) : Q2k (Q0n.ctx k) Tryz.f30 (Func.code Tryz.f30) (Q0n.ann k) Q0n.T Q0n.os (fun x K => Q0n.c k x.1 K) := by
 intro ρ x K; kernel_rfl
theorem Q0n.sem_ok (k : Nat) : QI Tryz.prog 30 (Q0n.sem k) :=
 Q1G (C := Q0n.ctx k) (Q0n.gok k) Tryz.mix (c := Func.code Tryz.f30) (ann := Q0n.ann k) (T := Q0n.T) (os := Q0n.os) (fun x K => Q0n.c k x.1 K) Tryz.func30 (by kernel_rfl) (by kernel_rfl) Q1.nil (Q0n.body k) (by kernel_rfl) (by kernel_rfl) (by kernel_rfl)
abbrev Q0O.τ : Type := QhR 
def Q0O.c (k : Nat) {ρ : Type} (b0 : QhV) (K : Q0O.τ → Option ρ) : Option ρ :=
 let v0 : ByteArray := b0.1
 let v1 : Int := b0.2.1
 let v2 : Int := (IntKind.wrap IntKind.i64 ((((ByteArray.size v0) : Nat) : Int) - v1))
 K (v2, ((b0.1, (b0.2.1, (b0.2.2.1, ()))), ()))
def Q0O (k : Nat) (b0 : QhV) : Option Q0O.τ := Q0O.c k b0 some
def Q0O.T : Q27 := ⟨[.ptr 0 []], [.dat QhP], 1⟩
def Q0O.os : List Out := [⟨.ret, [.freeze (.slot 0), .auto 1], ⟨[.dat (.int .i64)], [.dat QhP]⟩⟩]
def Q0O.sem (k : Nat) : QT := Q2j Q0O.T Q0O.os fun x => Q0O k x.1
noncomputable def Q0O.ctx (k : Nat) : Ctx := ⟨Tryz.prog, gam []⟩
theorem Q0O.gok (k : Nat) : ∀ f, QI Tryz.prog f ((Q0O.ctx k).Γ f) := Q01
def Q0O.ann (k : Nat) : Ann := .nil
theorem Q0O.body (k : Nat) : Q2k (Q0O.ctx k) Tryz.f90 (Func.code Tryz.f90) (Q0O.ann k) Q0O.T Q0O.os (fun x K => Q0O.c k x.1 K) := by
 intro ρ x K; kernel_rfl
theorem Q0O.sem_ok (k : Nat) : QI Tryz.prog 90 (Q0O.sem k) :=
 Q1G (C := Q0O.ctx k) (Q0O.gok k) Tryz.mix (c := Func.code Tryz.f90) (ann := Q0O.ann k) (T := Q0O.T) (os := Q0O.os) (fun x K => Q0O.c k x.1 K) Tryz.func90 (by kernel_rfl) (by kernel_rfl) Q1.nil (Q0O.body k) (by kernel_rfl) (by kernel_rfl) (by kernel_rfl)
abbrev Q03.τ : Type := (ByteArray × QhV × Unit)
def Q03.c (k : Nat) {ρ : Type} (n : Int) (b0 : QhV) (K : Q03.τ → Option ρ) : Option ρ :=
 (Q0n k (b0.1, (b0.2.1, (b0.2.2.1, ())))).bind fun t0 => bif (t0.1 != (0 : Int)) then (K ((⟨(List.toArray [])⟩ : ByteArray), ((t0.2.1.1, (t0.2.1.2.1, (t0.2.1.2.2.1, ()))), ()))) else (bif (decide (n < (0 : Int))) then (K ((⟨(List.toArray [])⟩ : ByteArray), ((t0.2.1.1, (t0.2.1.2.1, ((1 : Int), ()))), ()))) else ((Q0O k (t0.2.1.1, (t0.2.1.2.1, (t0.2.1.2.2.1, ())))).bind fun t1 => bif (decide (n > t1.1)) then (K ((⟨(List.toArray [])⟩ : ByteArray), ((t1.2.1.1, (t1.2.1.2.1, ((4 : Int), ()))), ()))) else (let v2 : Int := t1.2.1.2.1
 let v3 : Int := (IntKind.wrap IntKind.i64 (v2 + n))
 let v4 : ByteArray := t1.2.1.1
 let v5 : Int := (IntKind.wrap IntKind.i64 (v3 - n))
 bif (decide (((0 : Int) ≤ v5) ∧ ((v5 ≤ v3) ∧ (v3 ≤ (((ByteArray.size v4) : Nat) : Int))))) then (K ((ByteArray.extract v4 (Int.toNat v5) (Int.toNat v3)), ((t1.2.1.1, (v3, (t1.2.1.2.2.1, ()))), ()))) else (none))))
def Q03 (k : Nat) (n : Int) (b0 : QhV) : Option Q03.τ := Q03.c k n b0 some
def Q03.T : Q27 := ⟨[.ptr 0 [], .dat (.int .i64)], [.dat QhP], 1⟩
def Q03.os : List Out := [⟨.ret, [.freeze (.slot 0), .auto 1], ⟨[.dat .str], [.dat QhP]⟩⟩]
def Q03.sem (k : Nat) : QT := Q2j Q03.T Q03.os fun x => Q03 k x.1 x.2.1
noncomputable def Q03.ctx (k : Nat) : Ctx := ⟨Tryz.prog, gam [(30, (Q0n.sem k)), (90, (Q0O.sem k))]⟩
theorem Q03.gok (k : Nat) : ∀ f, QI Tryz.prog f ((Q03.ctx k).Γ f) := (Ql (Q0n.sem_ok k) (Ql (Q0O.sem_ok k) Q01))
def Q03.ann (k : Nat) : Ann := .nil
theorem Q03.body (k : Nat) : Q2k (Q03.ctx k) Tryz.f59 (Func.code Tryz.f59) (Q03.ann k) Q03.T Q03.os (fun x K => Q03.c k x.1 x.2.1 K) := by
 intro ρ x K; kernel_rfl
theorem Q03.sem_ok (k : Nat) : QI Tryz.prog 59 (Q03.sem k) :=
 Q1G (C := Q03.ctx k) (Q03.gok k) Tryz.mix (c := Func.code Tryz.f59) (ann := Q03.ann k) (T := Q03.T) (os := Q03.os) (fun x K => Q03.c k x.1 x.2.1 K) Tryz.func59 (by kernel_rfl) (by kernel_rfl) Q1.nil (Q03.body k) (by kernel_rfl) (by kernel_rfl) (by kernel_rfl)
abbrev Q0L.l0.σ : Type := ByteArray × Int × Int × Int × Unit
abbrev Q0L.l0.τ : Type := (Int × Unit)
def Q0L.l0.r (k : Nat) {ρ : Type} (x : Q0L.l0.σ) (kn : Q0L.l0.σ → Option ρ) (ke : Q0L.l0.τ → Option ρ) : Option ρ :=
 bif (decide (x.2.2.2.1 < x.2.2.1)) then (bif (decide (((0 : Int) ≤ x.2.2.2.1) ∧ (x.2.2.2.1 < (((ByteArray.size x.1) : Nat) : Int)))) then (let v0 : Int := (Q1v x.1 (Int.toNat x.2.2.2.1))
 let v1 : Int := (IntKind.wrap IntKind.i64 ((8 : Int) * x.2.2.2.1))
 bif (decide ((0 : Int) ≤ v1)) then (let v2 : Int := (Q12 BinOp.or IntKind.u64 x.2.1 (Q2w IntKind.u64 (IntKind.wrap IntKind.u64 v0) v1))
 let v3 : Int := (IntKind.wrap IntKind.i64 (x.2.2.2.1 + (1 : Int)))
 kn (x.1, (v2, (x.2.2.1, (v3, ()))))) else (none)) else (none)) else (ke (x.2.1, ()))
def Q0L.l0 (k : Nat) : Nat → Q0L.l0.σ → Option Q0L.l0.τ := Q15 (Q0L.l0.r k)
def Q0L.l0.T : StT := ⟨.dat .str :: us 2 ++ .dat (.int .u64) :: us 2 ++ .dat (.int .i64) :: .dat (.int .i64) :: us 13, []⟩
def Q0L.l0.os : List Out := [⟨(.exit 0), [.mask [3], .auto 0], ⟨us 3 ++ .dat (.int .u64) :: us 17, []⟩⟩]
def Q0L.c (k : Nat) {ρ : Type} (s : ByteArray) (K : Int × Unit → Option ρ) : Option ρ :=
 (Q0L.l0 k k (s, ((0 : Int), ((((ByteArray.size s) : Nat) : Int), ((0 : Int), ()))))).bind fun t4 => K (t4.1, ())
def Q0L (k : Nat) (s : ByteArray) : Option (Int × Unit) := Q0L.c k s some
def Q0L.tin : List Ty := [.str]
def Q0L.tout : List Ty := [(.int .u64)]
def Q0L.sem (k : Nat) : QT := Q00 Q0L.tin Q0L.tout fun x => Q0L k x.1
noncomputable def Q0L.ctx (k : Nat) : Ctx := ⟨Tryz.prog, gam []⟩
theorem Q0L.gok (k : Nat) : ∀ f, QI Tryz.prog f ((Q0L.ctx k).Γ f) := Q01
theorem Q0L.l0.round (k : Nat) : Q14 (Q0L.ctx k) (QP (Func.code Tryz.f58) [1, 1, 0, 1, 0, 0]) (.nil) Q0L.l0.T [.mask [0, 3, 6, 7], .auto 0] Q0L.l0.os (Q0L.l0.r k) := by
 intro ρ x kn ke; kernel_rfl
theorem Q0L.l0.ok (k : Nat) : StOK 0 Tryz.prog (.loop (QP (Func.code Tryz.f58) [1, 1, 0, 1, 0, 0])) (Qp Q0L.l0.T Q0L.l0.os (Q0L.l0 k k)) :=
 Q16 (C := Q0L.ctx k) (Q0L.gok k) Tryz.mix Q1.nil (by kernel_rfl) (by kernel_rfl) (by kernel_rfl) (Q0L.l0.round k) k
def Q0L.ann (k : Nat) : Ann := .node [] none (.nil) (.node [] none (.nil) (.node [] none (.node [] none (.nil) (.node [] none (.node [] (some (Qp Q0L.l0.T Q0L.l0.os (Q0L.l0 k k))) .nil .nil) (.nil))) (.nil)))
theorem Q0L.body (k : Nat) : Q0W (Q0L.ctx k) Tryz.f58 (Func.code Tryz.f58) (Q0L.ann k) Q0L.tin Q0L.tout (fun x K => Q0L.c k x.1 K) := by
 intro ρ x K; kernel_rfl
theorem Q0L.sem_ok (k : Nat) : QI Tryz.prog 58 (Q0L.sem k) :=
 QG (C := Q0L.ctx k) (Q0L.gok k) Tryz.mix (c := Func.code Tryz.f58) (ann := Q0L.ann k) (tin := Q0L.tin) (tout := Q0L.tout) (fun x K => Q0L.c k x.1 K) Tryz.func58 (by kernel_rfl) (by kernel_rfl) (Q1.seq Q1.nil (Q1.seq Q1.nil (Q1.seq (Q1.seq Q1.nil (Q1.block (Q1.loop (by kernel_rfl) (Q0L.l0.ok k)))) Q1.nil))) (Q0L.body k)
abbrev Q0p.τ : Type := QhR 
def Q0p.c (k : Nat) {ρ : Type} (b0 : QhV) (K : Q0p.τ → Option ρ) : Option ρ :=
 (Q03 k (4 : Int) (b0.1, (b0.2.1, (b0.2.2.1, ())))).bind fun t0 => (Q0L k t0.1).bind fun t1 => let v2 : Int := (IntKind.wrap IntKind.u32 t1.1)
 K (v2, ((t0.2.1.1, (t0.2.1.2.1, (t0.2.1.2.2.1, ()))), ()))
def Q0p (k : Nat) (b0 : QhV) : Option Q0p.τ := Q0p.c k b0 some
def Q0p.T : Q27 := ⟨[.ptr 0 []], [.dat QhP], 1⟩
def Q0p.os : List Out := [⟨.ret, [.freeze (.slot 0), .auto 1], ⟨[.dat (.int .u32)], [.dat QhP]⟩⟩]
def Q0p.sem (k : Nat) : QT := Q2j Q0p.T Q0p.os fun x => Q0p k x.1
noncomputable def Q0p.ctx (k : Nat) : Ctx := ⟨Tryz.prog, gam [(59, (Q03.sem k)), (58, (Q0L.sem k))]⟩
theorem Q0p.gok (k : Nat) : ∀ f, QI Tryz.prog f ((Q0p.ctx k).Γ f) := (Ql (Q03.sem_ok k) (Ql (Q0L.sem_ok k) Q01))
def Q0p.ann (k : Nat) : Ann := .nil
theorem Q0p.body (k : Nat) : Q2k (Q0p.ctx k) Tryz.f28 (Func.code Tryz.f28) (Q0p.ann k) Q0p.T Q0p.os (fun x K => Q0p.c k x.1 K) := by
 intro ρ x K; kernel_rfl
theorem Q0p.sem_ok (k : Nat) : QI Tryz.prog 28 (Q0p.sem k) :=
 Q1G (C := Q0p.ctx k) (Q0p.gok k) Tryz.mix (c := Func.code Tryz.f28) (ann := Q0p.ann k) (T := Q0p.T) (os := Q0p.os) (fun x K => Q0p.c k x.1 K) Tryz.func28 (by kernel_rfl) (by kernel_rfl) Q1.nil (Q0p.body k) (by kernel_rfl) (by kernel_rfl) (by kernel_rfl)
abbrev Q0V.τ : Type := (Int × QhS × Unit)
def Q0V.c (k : Nat) {ρ : Type} (b0 : QhS) (K : Q0V.τ → Option ρ) : Option ρ :=
 (Q07 k (4 : Int) (b0.1, (b0.2.1, (b0.2.2.1, (b0.2.2.2.1, ()))))).bind fun t0 => (Q0A k t0.1).bind fun t1 => (Q0p k (t1.1.1, (t1.1.2.1, (t1.1.2.2.1, ())))).bind fun t2 => K (t2.1, ((t0.2.1.1, (t0.2.1.2.1, (t0.2.1.2.2.1, (t0.2.1.2.2.2.1, ())))), ()))
def Q0V (k : Nat) (b0 : QhS) : Option Q0V.τ := Q0V.c k b0 some
def Q0V.T : Q27 := ⟨[.ptr 0 []], [.dat QhM], 1⟩
def Q0V.os : List Out := [⟨.ret, [.freeze (.slot 0), .auto 1], ⟨[.dat (.int .u32)], [.dat QhM]⟩⟩]
def Q0V.sem (k : Nat) : QT := Q2j Q0V.T Q0V.os fun x => Q0V k x.1
noncomputable def Q0V.ctx (k : Nat) : Ctx := ⟨Tryz.prog, gam [(81, (Q07.sem k)), (27, (Q0A.sem k)), (28, (Q0p.sem k))]⟩
theorem Q0V.gok (k : Nat) : ∀ f, QI Tryz.prog f ((Q0V.ctx k).Γ f) := (Ql (Q07.sem_ok k) (Ql (Q0A.sem_ok k) (Ql (Q0p.sem_ok k) Q01)))
def Q0V.ann (k : Nat) : Ann := .nil
theorem Q0V.body (k : Nat) : Q2k (Q0V.ctx k) Tryz.f79 (Func.code Tryz.f79) (Q0V.ann k) Q0V.T Q0V.os (fun x K => Q0V.c k x.1 K) := by
 intro ρ x K; kernel_rfl
theorem Q0V.sem_ok (k : Nat) : QI Tryz.prog 79 (Q0V.sem k) :=
 Q1G (C := Q0V.ctx k) (Q0V.gok k) Tryz.mix (c := Func.code Tryz.f79) (ann := Q0V.ann k) (T := Q0V.T) (os := Q0V.os) (fun x K => Q0V.c k x.1 K) Tryz.func79 (by kernel_rfl) (by kernel_rfl) Q1.nil (Q0V.body k) (by kernel_rfl) (by kernel_rfl) (by kernel_rfl)
abbrev QN.p0.σ : Type := ByteArray × Int × Unit
abbrev QN.p0.τ : Type := (Int × Int × Int × Unit) ⊕ (ByteArray × Int × Unit)
def QN.p0.r (k : Nat) {ρ : Type} (x : QN.p0.σ) (K : QN.p0.τ → Option ρ) : Option ρ :=
 bif (decide (x.2.1 < (0 : Int))) then (K (.inl ((0 : Int), ((0 : Int), ((1 : Int), ()))))) else (let v0 : Int := (((ByteArray.size x.1) : Nat) : Int)
 bif (decide (x.2.1 > v0)) then (K (.inl ((0 : Int), ((0 : Int), ((1 : Int), ()))))) else (K (.inr (x.1, (x.2.1, ())))))
def QN.p0 (k : Nat) (x : QN.p0.σ) : Option QN.p0.τ := QN.p0.r k x some
def QN.p0.T : StT := ⟨.dat .str :: .dat (.int .i64) :: us 50, []⟩
def QN.p0.os : List Out := [⟨.ret, [.mask [4, 5, 6], .auto 0], ⟨us 4 ++ .dat (.int .u64) :: .dat (.int .i64) :: .dat (.int .i64) :: us 45, []⟩⟩, ⟨.normal, [.mask [0, 1], .auto 0], ⟨.dat .str :: .dat (.int .i64) :: us 50, []⟩⟩]
def QN.c (k : Nat) {ρ : Type} (s : ByteArray) (at_1 : Int) (K : Int × Int × Int × Unit → Option ρ) : Option ρ :=
 (QN.p0 k (s, (at_1, ()))).bind fun t1 => (match t1 with | .inl t2 => (K (t2.1, (t2.2.1, (t2.2.2.1, ())))) | .inr (t3) => (bif (decide (((0 : Int) ≤ t3.2.1) ∧ ((t3.2.1 ≤ (((ByteArray.size t3.1) : Nat) : Int)) ∧ ((((ByteArray.size t3.1) : Nat) : Int) ≤ (((ByteArray.size t3.1) : Nat) : Int))))) then (let v4 : ByteArray := (ByteArray.extract t3.1 (Int.toNat t3.2.1) (Int.toNat (((ByteArray.size t3.1) : Nat) : Int)))
 bif (Q2Y v4 (⟨(List.toArray [])⟩ : ByteArray)) then (K ((0 : Int), ((0 : Int), ((4 : Int), ())))) else (bif (decide (((0 : Int) ≤ (0 : Int)) ∧ ((0 : Int) < (((ByteArray.size v4) : Nat) : Int)))) then (bif (decide ((Q1v v4 0) < (253 : Int))) then (bif (decide (((0 : Int) ≤ (0 : Int)) ∧ ((0 : Int) < (((ByteArray.size v4) : Nat) : Int)))) then (let v5 : Int := (IntKind.wrap IntKind.i64 (t3.2.1 + (1 : Int)))
 K ((IntKind.wrap IntKind.u64 (Q1v v4 0)), (v5, ((0 : Int), ())))) else (none)) else (bif (decide (((0 : Int) ≤ (0 : Int)) ∧ ((0 : Int) < (((ByteArray.size v4) : Nat) : Int)))) then (let v6 : Int := (IntKind.wrap IntKind.u8 ((Q1v v4 0) - (253 : Int)))
 bif (decide ((0 : Int) ≤ v6)) then (let v7 : Int := (Q2w IntKind.i64 (2 : Int) v6)
 let v8 : Int := (IntKind.wrap IntKind.i64 ((1 : Int) + v7))
 bif (decide ((((ByteArray.size v4) : Nat) : Int) < v8)) then (K ((0 : Int), ((0 : Int), ((4 : Int), ())))) else (bif (decide (((0 : Int) ≤ (1 : Int)) ∧ (((1 : Int) ≤ v8) ∧ (v8 ≤ (((ByteArray.size v4) : Nat) : Int))))) then ((Q0L k (ByteArray.extract v4 1 (Int.toNat v8))).bind fun t9 => (Q0u k t9.1).bind fun t10 => bif (t10.1 != v8) then (K ((0 : Int), ((0 : Int), ((6 : Int), ())))) else (let v11 : Int := (IntKind.wrap IntKind.i64 (t3.2.1 + v8))
 K (t9.1, (v11, ((0 : Int), ()))))) else (none))) else (none)) else (none))) else (none))) else (none)))
def QN (k : Nat) (s : ByteArray) (at_1 : Int) : Option (Int × Int × Int × Unit) := QN.c k s at_1 some
def QN.tin : List Ty := [.str, (.int .i64)]
def QN.tout : List Ty := [(.int .u64), (.int .i64), (.int .i64)]
def QN.sem (k : Nat) : QT := Q00 QN.tin QN.tout fun x => QN k x.1 x.2.1
noncomputable def QN.ctx (k : Nat) : Ctx := ⟨Tryz.prog, gam [(58, (Q0L.sem k)), (53, (Q0u.sem k))]⟩
theorem QN.gok (k : Nat) : ∀ f, QI Tryz.prog f ((QN.ctx k).Γ f) := (Ql (Q0L.sem_ok k) (Ql (Q0u.sem_ok k) Q01))
theorem QN.p0.is (k : Nat) : Q22 (QN.ctx k) (QP (Func.code Tryz.f78) [1, 0]) (.nil) QN.p0.T QN.p0.os (QN.p0.r k) := by
 intro ρ x K; kernel_rfl
theorem QN.p0.ok (k : Nat) : StOK 0 Tryz.prog (QP (Func.code Tryz.f78) [1, 0]) (Qp QN.p0.T QN.p0.os (QN.p0 k)) :=
 Q1X (C := QN.ctx k) (T := QN.p0.T) (os := QN.p0.os) (QN.gok k) Tryz.mix (fun x K => QN.p0.r k x K) Q1.nil (by kernel_rfl) (by kernel_rfl) (QN.p0.is k)
def QN.ann (k : Nat) : Ann := .node [] none (.nil) (.node [] none (.node [] (some (Qp QN.p0.T QN.p0.os (QN.p0 k))) .nil .nil) (.nil))
theorem QN.body (k : Nat) : Q0W (QN.ctx k) Tryz.f78 (Func.code Tryz.f78) (QN.ann k) QN.tin QN.tout (fun x K => QN.c k x.1 x.2.1 K) := by
 intro ρ x K; kernel_rfl
theorem QN.sem_ok (k : Nat) : QI Tryz.prog 78 (QN.sem k) :=
 QG (C := QN.ctx k) (QN.gok k) Tryz.mix (c := Func.code Tryz.f78) (ann := QN.ann k) (tin := QN.tin) (tout := QN.tout) (fun x K => QN.c k x.1 x.2.1 K) Tryz.func78 (by kernel_rfl) (by kernel_rfl) (Q1.seq Q1.nil (Q1.seq (Q1.loop (by kernel_rfl) (QN.p0.ok k)) Q1.nil)) (QN.body k)
abbrev QA.p0.σ : Type := Int × Int × Int × QhS × Unit
abbrev QA.p0.τ : Type := (Int × Int × Int × QhS × Unit)
def QA.p0.r (k : Nat) {ρ : Type} (x : QA.p0.σ) (K : QA.p0.τ → Option ρ) : Option ρ :=
 let v0 : Int := x.2.2.2.1.2.2.2.1
 bif (v0 == (0 : Int)) then (let v1 : Int := x.2.2.2.1.2.2.1
 let v2 : ByteArray := x.2.2.2.1.1
 bif (decide (v1 < (((ByteArray.size v2) : Nat) : Int))) then (let v3 : ByteArray := x.2.2.2.1.1
 let v4 : Int := x.2.2.2.1.2.2.1
 bif (decide (((0 : Int) ≤ v4) ∧ (v4 < (((ByteArray.size v3) : Nat) : Int)))) then (bif ((Q1v v3 (Int.toNat v4)) == (253 : Int)) then (K (x.1, (x.2.1, ((3 : Int), ((x.2.2.2.1.1, (x.2.2.2.1.2.1, (x.2.2.2.1.2.2.1, (x.2.2.2.1.2.2.2.1, ())))), ()))))) else (bif ((Q1v v3 (Int.toNat v4)) == (254 : Int)) then (K (x.1, (x.2.1, ((5 : Int), ((x.2.2.2.1.1, (x.2.2.2.1.2.1, (x.2.2.2.1.2.2.1, (x.2.2.2.1.2.2.2.1, ())))), ()))))) else (bif ((Q1v v3 (Int.toNat v4)) == (255 : Int)) then (K (x.1, (x.2.1, ((9 : Int), ((x.2.2.2.1.1, (x.2.2.2.1.2.1, (x.2.2.2.1.2.2.1, (x.2.2.2.1.2.2.2.1, ())))), ()))))) else (K (x.1, (x.2.1, (x.2.2.1, ((x.2.2.2.1.1, (x.2.2.2.1.2.1, (x.2.2.2.1.2.2.1, (x.2.2.2.1.2.2.2.1, ())))), ())))))))) else (none)) else (K (x.1, (x.2.1, (x.2.2.1, ((x.2.2.2.1.1, (x.2.2.2.1.2.1, (x.2.2.2.1.2.2.1, (x.2.2.2.1.2.2.2.1, ())))), ())))))) else (K (x.1, (x.2.1, (x.2.2.1, ((x.2.2.2.1.1, (x.2.2.2.1.2.1, (x.2.2.2.1.2.2.1, (x.2.2.2.1.2.2.2.1, ())))), ())))))
def QA.p0 (k : Nat) (x : QA.p0.σ) : Option QA.p0.τ := QA.p0.r k x some
def QA.p0.T : StT := ⟨.ptr 0 [] :: .dat (.int .i64) :: .dat (.int .i64) :: us 4 ++ .dat (.int .i64) :: us 68, [.dat QhM]⟩
def QA.p0.os : List Out := [⟨.normal, [.mask [0, 1, 2, 7], .auto 1], ⟨.ptr 0 [] :: .dat (.int .i64) :: .dat (.int .i64) :: us 4 ++ .dat (.int .i64) :: us 68, [.dat QhM]⟩⟩]
abbrev QA.τ : Type := (Int × QhS × Unit)
def QA.c (k : Nat) {ρ : Type} (most : Int) (e : Int) (b0 : QhS) (K : QA.τ → Option ρ) : Option ρ :=
 (QA.p0 k (most, (e, ((1 : Int), ((b0.1, (b0.2.1, (b0.2.2.1, (b0.2.2.2.1, ())))), ()))))).bind fun t5 => (Q07 k t5.2.2.1 (t5.2.2.2.1.1, (t5.2.2.2.1.2.1, (t5.2.2.2.1.2.2.1, (t5.2.2.2.1.2.2.2.1, ()))))).bind fun t6 => let v7 : Int := t6.2.1.2.2.2.1
 bif (v7 != (0 : Int)) then (K ((0 : Int), ((t6.2.1.1, (t6.2.1.2.1, (t6.2.1.2.2.1, (t6.2.1.2.2.2.1, ())))), ()))) else ((QN k t6.1 (0 : Int)).bind fun t8 => let v9 : Int := t8.1
 let v10 : Int := t8.2.1
 let v11 : Int := t8.2.2.1
 bif (v11 != (0 : Int)) then (K ((0 : Int), ((t6.2.1.1, (t6.2.1.2.1, (t6.2.1.2.2.1, (v11, ())))), ()))) else (let v12 : Int := (IntKind.wrap IntKind.u64 t5.1)
 bif (decide (v9 > v12)) then (K ((0 : Int), ((t6.2.1.1, (t6.2.1.2.1, (t6.2.1.2.2.1, (t5.2.1, ())))), ()))) else (K ((IntKind.wrap IntKind.i64 v9), ((t6.2.1.1, (t6.2.1.2.1, (t6.2.1.2.2.1, (t6.2.1.2.2.2.1, ())))), ())))))
def QA (k : Nat) (most : Int) (e : Int) (b0 : QhS) : Option QA.τ := QA.c k most e b0 some
def QA.T : Q27 := ⟨[.ptr 0 [], .dat (.int .i64), .dat (.int .i64)], [.dat QhM], 1⟩
def QA.os : List Out := [⟨.ret, [.freeze (.slot 0), .auto 1], ⟨[.dat (.int .i64)], [.dat QhM]⟩⟩]
def QA.sem (k : Nat) : QT := Q2j QA.T QA.os fun x => QA k x.1 x.2.1 x.2.2.1
noncomputable def QA.ctx (k : Nat) : Ctx := ⟨Tryz.prog, gam [(81, (Q07.sem k)), (78, (QN.sem k))]⟩
theorem QA.gok (k : Nat) : ∀ f, QI Tryz.prog f ((QA.ctx k).Γ f) := (Ql (Q07.sem_ok k) (Ql (QN.sem_ok k) Q01))
theorem QA.p0.is (k : Nat) : Q22 (QA.ctx k) (QP (Func.code Tryz.f80) [1, 1, 0]) (.nil) QA.p0.T QA.p0.os (QA.p0.r k) := by
 intro ρ x K; kernel_rfl
theorem QA.p0.ok (k : Nat) : StOK 1 Tryz.prog (QP (Func.code Tryz.f80) [1, 1, 0]) (Qp QA.p0.T QA.p0.os (QA.p0 k)) :=
 Q1X (C := QA.ctx k) (T := QA.p0.T) (os := QA.p0.os) (QA.gok k) Tryz.mix (fun x K => QA.p0.r k x K) Q1.nil (by kernel_rfl) (by kernel_rfl) (QA.p0.is k)
def QA.ann (k : Nat) : Ann := .node [] none (.nil) (.node [] none (.nil) (.node [] none (.node [.mask [0, 1, 2, 7], .auto 1] (some (Qp QA.p0.T QA.p0.os (QA.p0 k))) .nil .nil) (.nil)))
theorem QA.body (k : Nat) : Q2k (QA.ctx k) Tryz.f80 (Func.code Tryz.f80) (QA.ann k) QA.T QA.os (fun x K => QA.c k x.1 x.2.1 x.2.2.1 K) := by
 intro ρ x K; kernel_rfl
theorem QA.sem_ok (k : Nat) : QI Tryz.prog 80 (QA.sem k) :=
 Q1G (C := QA.ctx k) (QA.gok k) Tryz.mix (c := Func.code Tryz.f80) (ann := QA.ann k) (T := QA.T) (os := QA.os) (fun x K => QA.c k x.1 x.2.1 x.2.2.1 K) Tryz.func80 (by kernel_rfl) (by kernel_rfl) (Q1.seq Q1.nil (Q1.seq Q1.nil (Q1.seq (Q1.loop (by kernel_rfl) (QA.p0.ok k)) Q1.nil))) (QA.body k) (by kernel_rfl) (by kernel_rfl) (by kernel_rfl)
abbrev Q0z.τ : Type := (ByteArray × QhS × Unit)
def Q0z.c (k : Nat) {ρ : Type} (b0 : QhS) (K : Q0z.τ → Option ρ) : Option ρ :=
 (QA k (520 : Int) (100 : Int) (b0.1, (b0.2.1, (b0.2.2.1, (b0.2.2.2.1, ()))))).bind fun t0 => (Q07 k t0.1 (t0.2.1.1, (t0.2.1.2.1, (t0.2.1.2.2.1, (t0.2.1.2.2.2.1, ()))))).bind fun t1 => K (t1.1, ((t1.2.1.1, (t1.2.1.2.1, (t1.2.1.2.2.1, (t1.2.1.2.2.2.1, ())))), ()))
def Q0z (k : Nat) (b0 : QhS) : Option Q0z.τ := Q0z.c k b0 some
def Q0z.T : Q27 := ⟨[.ptr 0 []], [.dat QhM], 1⟩
def Q0z.os : List Out := [⟨.ret, [.freeze (.slot 0), .auto 1], ⟨[.dat .str], [.dat QhM]⟩⟩]
def Q0z.sem (k : Nat) : QT := Q2j Q0z.T Q0z.os fun x => Q0z k x.1
noncomputable def Q0z.ctx (k : Nat) : Ctx := ⟨Tryz.prog, gam [(80, (QA.sem k)), (81, (Q07.sem k))]⟩
theorem Q0z.gok (k : Nat) : ∀ f, QI Tryz.prog f ((Q0z.ctx k).Γ f) := (Ql (QA.sem_ok k) (Ql (Q07.sem_ok k) Q01))
def Q0z.ann (k : Nat) : Ann := .nil
theorem Q0z.body (k : Nat) : Q2k (Q0z.ctx k) Tryz.f82 (Func.code Tryz.f82) (Q0z.ann k) Q0z.T Q0z.os (fun x K => Q0z.c k x.1 K) := by
 intro ρ x K; kernel_rfl
theorem Q0z.sem_ok (k : Nat) : QI Tryz.prog 82 (Q0z.sem k) :=
 Q1G (C := Q0z.ctx k) (Q0z.gok k) Tryz.mix (c := Func.code Tryz.f82) (ann := Q0z.ann k) (T := Q0z.T) (os := Q0z.os) (fun x K => Q0z.c k x.1 K) Tryz.func82 (by kernel_rfl) (by kernel_rfl) Q1.nil (Q0z.body k) (by kernel_rfl) (by kernel_rfl) (by kernel_rfl)
abbrev Q0Q.τ : Type := QhR 
def Q0Q.c (k : Nat) {ρ : Type} (b0 : QhV) (K : Q0Q.τ → Option ρ) : Option ρ :=
 (Q03 k (8 : Int) (b0.1, (b0.2.1, (b0.2.2.1, ())))).bind fun t0 => (Q0L k t0.1).bind fun t1 => K (t1.1, ((t0.2.1.1, (t0.2.1.2.1, (t0.2.1.2.2.1, ()))), ()))
def Q0Q (k : Nat) (b0 : QhV) : Option Q0Q.τ := Q0Q.c k b0 some
def Q0Q.T : Q27 := ⟨[.ptr 0 []], [.dat QhP], 1⟩
def Q0Q.os : List Out := [⟨.ret, [.freeze (.slot 0), .auto 1], ⟨[.dat (.int .u64)], [.dat QhP]⟩⟩]
def Q0Q.sem (k : Nat) : QT := Q2j Q0Q.T Q0Q.os fun x => Q0Q k x.1
noncomputable def Q0Q.ctx (k : Nat) : Ctx := ⟨Tryz.prog, gam [(59, (Q03.sem k)), (58, (Q0L.sem k))]⟩
theorem Q0Q.gok (k : Nat) : ∀ f, QI Tryz.prog f ((Q0Q.ctx k).Γ f) := (Ql (Q03.sem_ok k) (Ql (Q0L.sem_ok k) Q01))
def Q0Q.ann (k : Nat) : Ann := .nil
theorem Q0Q.body (k : Nat) : Q2k (Q0Q.ctx k) Tryz.f83 (Func.code Tryz.f83) (Q0Q.ann k) Q0Q.T Q0Q.os (fun x K => Q0Q.c k x.1 K) := by
 intro ρ x K; kernel_rfl
theorem Q0Q.sem_ok (k : Nat) : QI Tryz.prog 83 (Q0Q.sem k) :=
 Q1G (C := Q0Q.ctx k) (Q0Q.gok k) Tryz.mix (c := Func.code Tryz.f83) (ann := Q0Q.ann k) (T := Q0Q.T) (os := Q0Q.os) (fun x K => Q0Q.c k x.1 K) Tryz.func83 (by kernel_rfl) (by kernel_rfl) Q1.nil (Q0Q.body k) (by kernel_rfl) (by kernel_rfl) (by kernel_rfl)
abbrev Qw.p0.σ : Type := ByteArray × Int × QhT × Unit
abbrev Qw.p0.τ : Type := (Int × Int × QhT × Unit) ⊕ (ByteArray × Int × QhT × Unit)
def Qw.p0.r (k : Nat) {ρ : Type} (x : Qw.p0.σ) (K : Qw.p0.τ → Option ρ) : Option ρ :=
 bif (decide (x.2.1 < (0 : Int))) then (K (.inl ((0 : Int), ((1 : Int), (((0 : Int), ((), ((), ((0 : Int), ())))), ()))))) else (let v0 : Int := (((ByteArray.size x.1) : Nat) : Int)
 bif (decide (x.2.1 > v0)) then (K (.inl ((0 : Int), ((1 : Int), (((0 : Int), ((), ((), ((0 : Int), ())))), ()))))) else (K (.inr (x.1, (x.2.1, ((x.2.2.1.1, ((), ((), (x.2.2.1.2.2.2.1, ())))), ()))))))
def Qw.p0 (k : Nat) (x : Qw.p0.σ) : Option Qw.p0.τ := Qw.p0.r k x some
def Qw.p0.T : StT := ⟨.dat .str :: .dat (.int .i64) :: us 2 ++ .ptr 0 [] :: us 105, [.pair (.dat (.int .u32)) (.pair (.nils) (.pair (.nils) (.dat QhX)))]⟩
def Qw.p0.os : List Out := [⟨.ret, [.mask [4, 5, 6], .auto 0], ⟨us 4 ++ .ptr 0 [] :: .dat (.int .i64) :: .dat (.int .i64) :: us 103, [.pair (.dat (.int .u32)) (.pair (.nils) (.pair (.nils) (.dat QhX)))]⟩⟩, ⟨.normal, [.mask [0, 1, 4], .auto 0], ⟨.dat .str :: .dat (.int .i64) :: us 2 ++ .ptr 0 [] :: us 105, [.pair (.dat (.int .u32)) (.pair (.nils) (.pair (.nils) (.dat QhX)))]⟩⟩]
abbrev Qw.p2.σ : Type := Int × QhT × QhS × QhT × QhO × Unit
abbrev Qw.p2.τ : Type := (Int × QhT × QhS × QhT × QhO × Unit) ⊕ QhF 
def Qw.p2.r (k : Nat) {ρ : Type} (x : Qw.p2.σ) (K : Qw.p2.τ → Option ρ) : Option ρ :=
 bif (decide (x.1 > (0 : Int))) then (let v6 : Int := x.2.2.1.2.2.2.1
 bif (v6 == (0 : Int)) then (K (.inl (x.1, ((x.2.1.1, ((), ((), (x.2.1.2.2.2.1, ())))), ((x.2.2.1.1, (x.2.2.1.2.1, (x.2.2.1.2.2.1, (x.2.2.1.2.2.2.1, ())))), ((x.2.2.2.1.1, ((), ((), (x.2.2.2.1.2.2.2.1, ())))), (x.2.2.2.2.1, ()))))))) else (K (.inr ((x.2.1.1, ((), ((), (x.2.1.2.2.2.1, ())))), ((x.2.2.1.1, (x.2.2.1.2.1, (x.2.2.1.2.2.1, (x.2.2.1.2.2.2.1, ())))), ((x.2.2.2.1.1, ((), ((), (x.2.2.2.1.2.2.2.1, ())))), (x.2.2.2.2.1, ()))))))) else (K (.inr ((x.2.1.1, ((), ((), (x.2.1.2.2.2.1, ())))), ((x.2.2.1.1, (x.2.2.1.2.1, (x.2.2.1.2.2.1, (x.2.2.1.2.2.2.1, ())))), ((x.2.2.2.1.1, ((), ((), (x.2.2.2.1.2.2.2.1, ())))), (x.2.2.2.2.1, ()))))))
def Qw.p2 (k : Nat) (x : Qw.p2.σ) : Option Qw.p2.τ := Qw.p2.r k x some
def Qw.p2.T : StT := ⟨us 4 ++ .ptr 0 [] :: us 2 ++ .ptr 1 [] :: .ptr 2 [] :: .dat (.int .i64) :: us 100, [.pair (.dat (.int .u32)) (.pair (.nils) (.pair (.nils) (.dat QhX))), .dat QhM, .pair (.dat (.int .u32)) (.pair (.vsl 3) (.pair (.nils) (.dat QhX))), .vec QhK]⟩
def Qw.p2.os : List Out := [⟨.normal, [.mask [4, 7, 8, 9], .auto 0], ⟨us 4 ++ .ptr 0 [] :: us 2 ++ .ptr 1 [] :: .ptr 2 [] :: .dat (.int .i64) :: us 100, [.pair (.dat (.int .u32)) (.pair (.nils) (.pair (.nils) (.dat QhX))), .dat QhM, .pair (.dat (.int .u32)) (.pair (.vsl 3) (.pair (.nils) (.dat QhX))), .vec QhK]⟩⟩, ⟨(.exit 0), [.mask [4, 7, 8], .auto 0], ⟨us 4 ++ .ptr 0 [] :: us 2 ++ .ptr 1 [] :: .ptr 2 [] :: us 101, [.pair (.dat (.int .u32)) (.pair (.nils) (.pair (.nils) (.dat QhX))), .dat QhM, .pair (.dat (.int .u32)) (.pair (.vsl 3) (.pair (.nils) (.dat QhX))), .vec QhK]⟩⟩]
abbrev Qw.l1.σ : Type := Int × QhT × QhS × QhT × QhO × Unit
abbrev Qw.l1.τ : Type := QhF 
def Qw.l1.r (k : Nat) {ρ : Type} (x : Qw.l1.σ) (kn : Qw.l1.σ → Option ρ) (ke : Qw.l1.τ → Option ρ) : Option ρ :=
 (Qw.p2 k (x.1, ((x.2.1.1, ((), ((), (x.2.1.2.2.2.1, ())))), ((x.2.2.1.1, (x.2.2.1.2.1, (x.2.2.1.2.2.1, (x.2.2.1.2.2.2.1, ())))), ((x.2.2.2.1.1, ((), ((), (x.2.2.2.1.2.2.2.1, ())))), (x.2.2.2.2.1, ())))))).bind fun t7 => (match t7 with | .inl t8 => ((Q07 k (32 : Int) (t8.2.2.1.1, (t8.2.2.1.2.1, (t8.2.2.1.2.2.1, (t8.2.2.1.2.2.2.1, ()))))).bind fun t9 => let v10 : Int := (((Min.min (List.length (Qq t9.1)) 32) : Nat) : Int)
 (Q0V k (t9.2.1.1, (t9.2.1.2.1, (t9.2.1.2.2.1, (t9.2.1.2.2.2.1, ()))))).bind fun t11 => (Q0z k (t11.2.1.1, (t11.2.1.2.1, (t11.2.1.2.2.1, (t11.2.1.2.2.2.1, ()))))).bind fun t12 => (Q0V k (t12.2.1.1, (t12.2.1.2.1, (t12.2.1.2.2.1, (t12.2.1.2.2.2.1, ()))))).bind fun t13 => bif (Nat.ble (((List.length t8.2.2.2.2.1) + (List.length (List.set (List.replicate 1 (((List.replicate 32 (0 : Int)), ((0 : Int), ())), (ByteArray.empty, ((0 : Int), ())))) 0 (((Q2C (List.replicate 32 (0 : Int)) 0 (Qq t9.1) (Min.min (List.length (Qq t9.1)) 32)), (t11.1, ())), (t12.1, (t13.1, ())))))) * 64) 140737488355328) then (let v14 : Int := (IntKind.wrap IntKind.i64 (t8.1 - (1 : Int)))
 kn (v14, ((t8.2.1.1, ((), ((), (t8.2.1.2.2.2.1, ())))), ((t13.2.1.1, (t13.2.1.2.1, (t13.2.1.2.2.1, (t13.2.1.2.2.2.1, ())))), ((t8.2.2.2.1.1, ((), ((), (t8.2.2.2.1.2.2.2.1, ())))), ((t8.2.2.2.2.1 ++ (List.set (List.replicate 1 (((List.replicate 32 (0 : Int)), ((0 : Int), ())), (ByteArray.empty, ((0 : Int), ())))) 0 (((Q2C (List.replicate 32 (0 : Int)) 0 (Qq t9.1) (Min.min (List.length (Qq t9.1)) 32)), (t11.1, ())), (t12.1, (t13.1, ()))))), ())))))) else (none)) | .inr (t15) => (ke ((t15.1.1, ((), ((), (t15.1.2.2.2.1, ())))), ((t15.2.1.1, (t15.2.1.2.1, (t15.2.1.2.2.1, (t15.2.1.2.2.2.1, ())))), ((t15.2.2.1.1, ((), ((), (t15.2.2.1.2.2.2.1, ())))), (t15.2.2.2.1, ()))))))
def Qw.l1 (k : Nat) : Nat → Qw.l1.σ → Option Qw.l1.τ := Q15 (Qw.l1.r k)
def Qw.l1.T : StT := ⟨us 4 ++ .ptr 0 [] :: us 2 ++ .ptr 1 [] :: .ptr 2 [] :: .dat (.int .i64) :: us 100, [.pair (.dat (.int .u32)) (.pair (.nils) (.pair (.nils) (.dat QhX))), .dat QhM, .pair (.dat (.int .u32)) (.pair (.vsl 3) (.pair (.nils) (.dat QhX))), .vec QhK]⟩
def Qw.l1.os : List Out := [⟨(.exit 0), [.mask [4, 7, 8], .auto 0], ⟨us 4 ++ .ptr 0 [] :: us 2 ++ .ptr 1 [] :: .ptr 2 [] :: us 101, [.pair (.dat (.int .u32)) (.pair (.nils) (.pair (.nils) (.dat QhX))), .dat QhM, .pair (.dat (.int .u32)) (.pair (.vsl 3) (.pair (.nils) (.dat QhX))), .vec QhK]⟩⟩]
abbrev Qw.p4.σ : Type := Int × QhT × QhS × QhT × QhO × QhW × Unit
abbrev Qw.p4.τ : Type := (Int × QhT × QhS × QhT × QhO × QhW × Unit) ⊕ QhD 
def Qw.p4.r (k : Nat) {ρ : Type} (x : Qw.p4.σ) (K : Qw.p4.τ → Option ρ) : Option ρ :=
 bif (decide (x.1 > (0 : Int))) then (let v18 : Int := x.2.2.1.2.2.2.1
 bif (v18 == (0 : Int)) then (K (.inl (x.1, ((x.2.1.1, ((), ((), (x.2.1.2.2.2.1, ())))), ((x.2.2.1.1, (x.2.2.1.2.1, (x.2.2.1.2.2.1, (x.2.2.1.2.2.2.1, ())))), ((x.2.2.2.1.1, ((), ((), (x.2.2.2.1.2.2.2.1, ())))), (x.2.2.2.2.1, (x.2.2.2.2.2.1, ())))))))) else (K (.inr ((x.2.1.1, ((), ((), (x.2.1.2.2.2.1, ())))), ((x.2.2.1.1, (x.2.2.1.2.1, (x.2.2.1.2.2.1, (x.2.2.1.2.2.2.1, ())))), ((x.2.2.2.1.1, ((), ((), (x.2.2.2.1.2.2.2.1, ())))), (x.2.2.2.2.1, (x.2.2.2.2.2.1, ())))))))) else (K (.inr ((x.2.1.1, ((), ((), (x.2.1.2.2.2.1, ())))), ((x.2.2.1.1, (x.2.2.1.2.1, (x.2.2.1.2.2.1, (x.2.2.1.2.2.2.1, ())))), ((x.2.2.2.1.1, ((), ((), (x.2.2.2.1.2.2.2.1, ())))), (x.2.2.2.2.1, (x.2.2.2.2.2.1, ())))))))
def Qw.p4 (k : Nat) (x : Qw.p4.σ) : Option Qw.p4.τ := Qw.p4.r k x some
def Qw.p4.T : StT := ⟨us 4 ++ .ptr 0 [] :: us 2 ++ .ptr 1 [] :: .ptr 2 [] :: us 2 ++ .dat (.int .i64) :: us 98, [.pair (.dat (.int .u32)) (.pair (.nils) (.pair (.nils) (.dat QhX))), .dat QhM, .pair (.dat (.int .u32)) (.pair (.vsl 3) (.pair (.vsl 4) (.dat QhX))), .vec QhK, .vec QhU]⟩
def Qw.p4.os : List Out := [⟨.normal, [.mask [4, 7, 8, 11], .auto 0], ⟨us 4 ++ .ptr 0 [] :: us 2 ++ .ptr 1 [] :: .ptr 2 [] :: us 2 ++ .dat (.int .i64) :: us 98, [.pair (.dat (.int .u32)) (.pair (.nils) (.pair (.nils) (.dat QhX))), .dat QhM, .pair (.dat (.int .u32)) (.pair (.vsl 3) (.pair (.vsl 4) (.dat QhX))), .vec QhK, .vec QhU]⟩⟩, ⟨(.exit 2), [.mask [4, 7, 8], .auto 0], ⟨us 4 ++ .ptr 0 [] :: us 2 ++ .ptr 1 [] :: .ptr 2 [] :: us 101, [.pair (.dat (.int .u32)) (.pair (.nils) (.pair (.nils) (.dat QhX))), .dat QhM, .pair (.dat (.int .u32)) (.pair (.vsl 3) (.pair (.vsl 4) (.dat QhX))), .vec QhK, .vec QhU]⟩⟩]
abbrev Qw.l3.σ : Type := Int × QhT × QhS × QhT × QhO × QhW × Unit
abbrev Qw.l3.τ : Type := QhD 
def Qw.l3.r (k : Nat) {ρ : Type} (x : Qw.l3.σ) (kn : Qw.l3.σ → Option ρ) (ke : Qw.l3.τ → Option ρ) : Option ρ :=
 (Qw.p4 k (x.1, ((x.2.1.1, ((), ((), (x.2.1.2.2.2.1, ())))), ((x.2.2.1.1, (x.2.2.1.2.1, (x.2.2.1.2.2.1, (x.2.2.1.2.2.2.1, ())))), ((x.2.2.2.1.1, ((), ((), (x.2.2.2.1.2.2.2.1, ())))), (x.2.2.2.2.1, (x.2.2.2.2.2.1, ()))))))).bind fun t19 => (match t19 with | .inl t20 => ((Q07 k (8 : Int) (t20.2.2.1.1, (t20.2.2.1.2.1, (t20.2.2.1.2.2.1, (t20.2.2.1.2.2.2.1, ()))))).bind fun t21 => (Q0A k t21.1).bind fun t22 => (Q0Q k (t22.1.1, (t22.1.2.1, (t22.1.2.2.1, ())))).bind fun t23 => (Q0z k (t21.2.1.1, (t21.2.1.2.1, (t21.2.1.2.2.1, (t21.2.1.2.2.2.1, ()))))).bind fun t24 => bif (Nat.ble (((List.length t20.2.2.2.2.2.1) + (List.length (List.set (List.replicate 1 ((0 : Int), (ByteArray.empty, ()))) 0 (t23.1, (t24.1, ()))))) * 24) 140737488355328) then (let v25 : Int := (IntKind.wrap IntKind.i64 (t20.1 - (1 : Int)))
 kn (v25, ((t20.2.1.1, ((), ((), (t20.2.1.2.2.2.1, ())))), ((t24.2.1.1, (t24.2.1.2.1, (t24.2.1.2.2.1, (t24.2.1.2.2.2.1, ())))), ((t20.2.2.2.1.1, ((), ((), (t20.2.2.2.1.2.2.2.1, ())))), (t20.2.2.2.2.1, ((t20.2.2.2.2.2.1 ++ (List.set (List.replicate 1 ((0 : Int), (ByteArray.empty, ()))) 0 (t23.1, (t24.1, ())))), ()))))))) else (none)) | .inr (t26) => (ke ((t26.1.1, ((), ((), (t26.1.2.2.2.1, ())))), ((t26.2.1.1, (t26.2.1.2.1, (t26.2.1.2.2.1, (t26.2.1.2.2.2.1, ())))), ((t26.2.2.1.1, ((), ((), (t26.2.2.1.2.2.2.1, ())))), (t26.2.2.2.1, (t26.2.2.2.2.1, ())))))))
def Qw.l3 (k : Nat) : Nat → Qw.l3.σ → Option Qw.l3.τ := Q15 (Qw.l3.r k)
def Qw.l3.T : StT := ⟨us 4 ++ .ptr 0 [] :: us 2 ++ .ptr 1 [] :: .ptr 2 [] :: us 2 ++ .dat (.int .i64) :: us 98, [.pair (.dat (.int .u32)) (.pair (.nils) (.pair (.nils) (.dat QhX))), .dat QhM, .pair (.dat (.int .u32)) (.pair (.vsl 3) (.pair (.vsl 4) (.dat QhX))), .vec QhK, .vec QhU]⟩
def Qw.l3.os : List Out := [⟨(.exit 2), [.mask [4, 7, 8], .auto 0], ⟨us 4 ++ .ptr 0 [] :: us 2 ++ .ptr 1 [] :: .ptr 2 [] :: us 101, [.pair (.dat (.int .u32)) (.pair (.nils) (.pair (.nils) (.dat QhX))), .dat QhM, .pair (.dat (.int .u32)) (.pair (.vsl 3) (.pair (.vsl 4) (.dat QhX))), .vec QhK, .vec QhU]⟩⟩]
def Qw.c (k : Nat) {ρ : Type} (s : ByteArray) (at_1 : Int) (K : QhI × Int × Int × Unit → Option ρ) : Option ρ :=
 (Qw.p0 k (s, (at_1, (((0 : Int), ((), ((), ((0 : Int), ())))), ())))).bind fun t1 => (match t1 with | .inl t2 => (K ((t2.2.2.1.1, ([], ([], (t2.2.2.1.2.2.2.1, ())))), (t2.1, (t2.2.1, ())))) | .inr (t3) => ((Q0V k (t3.1, (t3.2.1, (t3.2.1, ((0 : Int), ()))))).bind fun t4 => (QA k (4096 : Int) (5 : Int) (t4.2.1.1, (t4.2.1.2.1, (t4.2.1.2.2.1, (t4.2.1.2.2.2.1, ()))))).bind fun t5 => (Qw.l1 k k (t5.1, ((t3.2.2.1.1, ((), ((), (t3.2.2.1.2.2.2.1, ())))), ((t5.2.1.1, (t5.2.1.2.1, (t5.2.1.2.2.1, (t5.2.1.2.2.2.1, ())))), ((t4.1, ((), ((), ((0 : Int), ())))), ([], ())))))).bind fun t16 => (QA k (4096 : Int) (5 : Int) (t16.2.1.1, (t16.2.1.2.1, (t16.2.1.2.2.1, (t16.2.1.2.2.2.1, ()))))).bind fun t17 => (Qw.l3 k k (t17.1, ((t16.1.1, ((), ((), (t16.1.2.2.2.1, ())))), ((t17.2.1.1, (t17.2.1.2.1, (t17.2.1.2.2.1, (t17.2.1.2.2.2.1, ())))), ((t16.2.2.1.1, ((), ((), (t16.2.2.1.2.2.2.1, ())))), (t16.2.2.2.1, ([], ()))))))).bind fun t27 => (Q0V k (t27.2.1.1, (t27.2.1.2.1, (t27.2.1.2.2.1, (t27.2.1.2.2.2.1, ()))))).bind fun t28 => let v29 : Int := t28.2.1.2.2.2.1
 bif (v29 != (0 : Int)) then (let v30 : Int := t28.2.1.2.2.2.1
 K (((0 : Int), ([], ([], ((0 : Int), ())))), ((0 : Int), (v30, ())))) else (let v31 : Int := t28.2.1.2.2.1
 K ((t27.2.2.1.1, (t27.2.2.2.1, (t27.2.2.2.2.1, (t28.1, ())))), (v31, ((0 : Int), ()))))))
def Qw (k : Nat) (s : ByteArray) (at_1 : Int) : Option (QhI × Int × Int × Unit) := Qw.c k s at_1 some
def Qw.tin : List Ty := [.str, (.int .i64)]
def Qw.tout : List Ty := [(.pair (.int .u32) (.pair (.sl QhK) QhN)), (.int .i64), (.int .i64)]
def Qw.sem (k : Nat) : QT := Q00 Qw.tin Qw.tout fun x => Qw k x.1 x.2.1
noncomputable def Qw.ctx (k : Nat) : Ctx := ⟨Tryz.prog, gam [(79, (Q0V.sem k)), (80, (QA.sem k)), (81, (Q07.sem k)), (82, (Q0z.sem k)), (27, (Q0A.sem k)), (83, (Q0Q.sem k))]⟩
theorem Qw.gok (k : Nat) : ∀ f, QI Tryz.prog f ((Qw.ctx k).Γ f) := (Ql (Q0V.sem_ok k) (Ql (QA.sem_ok k) (Ql (Q07.sem_ok k) (Ql (Q0z.sem_ok k) (Ql (Q0A.sem_ok k) (Ql (Q0Q.sem_ok k) Q01))))))
theorem Qw.p0.is (k : Nat) : Q22 (Qw.ctx k) (QP (Func.code Tryz.f50) [1, 0]) (.nil) Qw.p0.T Qw.p0.os (Qw.p0.r k) := by
 intro ρ x K; kernel_rfl
theorem Qw.p0.ok (k : Nat) : StOK 0 Tryz.prog (QP (Func.code Tryz.f50) [1, 0]) (Qp Qw.p0.T Qw.p0.os (Qw.p0 k)) :=
 Q1X (C := Qw.ctx k) (T := Qw.p0.T) (os := Qw.p0.os) (Qw.gok k) Tryz.mix (fun x K => Qw.p0.r k x K) Q1.nil (by kernel_rfl) (by kernel_rfl) (Qw.p0.is k)
theorem Qw.p2.is (k : Nat) : Q22 (Qw.ctx k) (QP (Func.code Tryz.f50) [1, 1, 1, 1, 1, 0, 1, 0, 0, 0]) (.nil) Qw.p2.T Qw.p2.os (Qw.p2.r k) := by
 intro ρ x K; kernel_rfl
theorem Qw.p2.ok (k : Nat) : StOK 0 Tryz.prog (QP (Func.code Tryz.f50) [1, 1, 1, 1, 1, 0, 1, 0, 0, 0]) (Qp Qw.p2.T Qw.p2.os (Qw.p2 k)) :=
 Q1X (C := Qw.ctx k) (T := Qw.p2.T) (os := Qw.p2.os) (Qw.gok k) Tryz.mix (fun x K => Qw.p2.r k x K) Q1.nil (by kernel_rfl) (by kernel_rfl) (Qw.p2.is k)
theorem Qw.l1.round (k : Nat) : Q14 (Qw.ctx k) (QP (Func.code Tryz.f50) [1, 1, 1, 1, 1, 0, 1, 0, 0]) (.node [] none (.node [.mask [4, 7, 8, 9], .auto 0] (some (Qp Qw.p2.T Qw.p2.os (Qw.p2 k))) .nil .nil) (.nil)) Qw.l1.T [.mask [4, 7, 8, 9], .auto 0] Qw.l1.os (Qw.l1.r k) := by
 intro ρ x kn ke; kernel_rfl
theorem Qw.l1.ok (k : Nat) : StOK 0 Tryz.prog (.loop (QP (Func.code Tryz.f50) [1, 1, 1, 1, 1, 0, 1, 0, 0])) (Qp Qw.l1.T Qw.l1.os (Qw.l1 k k)) :=
 Q16 (C := Qw.ctx k) (Qw.gok k) Tryz.mix (Q1.seq (Q1.loop (by kernel_rfl) (Qw.p2.ok k)) Q1.nil) (by kernel_rfl) (by kernel_rfl) (by kernel_rfl) (Qw.l1.round k) k
theorem Qw.p4.is (k : Nat) : Q22 (Qw.ctx k) (QP (Func.code Tryz.f50) [1, 1, 1, 1, 1, 1, 0, 1, 0, 0, 0]) (.nil) Qw.p4.T Qw.p4.os (Qw.p4.r k) := by
 intro ρ x K; kernel_rfl
theorem Qw.p4.ok (k : Nat) : StOK 0 Tryz.prog (QP (Func.code Tryz.f50) [1, 1, 1, 1, 1, 1, 0, 1, 0, 0, 0]) (Qp Qw.p4.T Qw.p4.os (Qw.p4 k)) :=
 Q1X (C := Qw.ctx k) (T := Qw.p4.T) (os := Qw.p4.os) (Qw.gok k) Tryz.mix (fun x K => Qw.p4.r k x K) Q1.nil (by kernel_rfl) (by kernel_rfl) (Qw.p4.is k)
theorem Qw.l3.round (k : Nat) : Q14 (Qw.ctx k) (QP (Func.code Tryz.f50) [1, 1, 1, 1, 1, 1, 0, 1, 0, 0]) (.node [] none (.node [.mask [4, 7, 8, 11], .auto 0] (some (Qp Qw.p4.T Qw.p4.os (Qw.p4 k))) .nil .nil) (.nil)) Qw.l3.T [.mask [4, 7, 8, 11], .auto 0] Qw.l3.os (Qw.l3.r k) := by
 intro ρ x kn ke; kernel_rfl
theorem Qw.l3.ok (k : Nat) : StOK 0 Tryz.prog (.loop (QP (Func.code Tryz.f50) [1, 1, 1, 1, 1, 1, 0, 1, 0, 0])) (Qp Qw.l3.T Qw.l3.os (Qw.l3 k k)) :=
 Q16 (C := Qw.ctx k) (Qw.gok k) Tryz.mix (Q1.seq (Q1.loop (by kernel_rfl) (Qw.p4.ok k)) Q1.nil) (by kernel_rfl) (by kernel_rfl) (by kernel_rfl) (Qw.l3.round k) k
def Qw.ann (k : Nat) : Ann := .node [] none (.nil) (.node [] none (.node [.mask [0, 1, 4], .auto 0] (some (Qp Qw.p0.T Qw.p0.os (Qw.p0 k))) .nil .nil) (.node [] none (.nil) (.node [] none (.nil) (.node [] none (.nil) (.node [] none (.node [] none (.nil) (.node [] none (.node [.mask [4, 7, 8, 9], .auto 0, .own (.blk 2 [1]) QhK] (some (Qp Qw.l1.T Qw.l1.os (Qw.l1 k k))) .nil .nil) (.nil))) (.node [] none (.node [] none (.nil) (.node [] none (.node [.mask [4, 7, 8, 11], .auto 0, .own (.blk 2 [2]) QhU] (some (Qp Qw.l3.T Qw.l3.os (Qw.l3 k k))) .nil .nil) (.nil))) (.nil)))))))
theorem Qw.body (k : Nat) : Q0W (Qw.ctx k) Tryz.f50 (Func.code Tryz.f50) (Qw.ann k) Qw.tin Qw.tout (fun x K => Qw.c k x.1 x.2.1 K) := by
 intro ρ x K; kernel_rfl
theorem Qw.sem_ok (k : Nat) : QI Tryz.prog 50 (Qw.sem k) :=
 QG (C := Qw.ctx k) (Qw.gok k) Tryz.mix (c := Func.code Tryz.f50) (ann := Qw.ann k) (tin := Qw.tin) (tout := Qw.tout) (fun x K => Qw.c k x.1 x.2.1 K) Tryz.func50 (by kernel_rfl) (by kernel_rfl) (Q1.seq Q1.nil (Q1.seq (Q1.loop (by kernel_rfl) (Qw.p0.ok k)) (Q1.seq Q1.nil (Q1.seq Q1.nil (Q1.seq Q1.nil (Q1.seq (Q1.seq Q1.nil (Q1.block (Q1.loop (by kernel_rfl) (Qw.l1.ok k)))) (Q1.seq (Q1.seq Q1.nil (Q1.block (Q1.loop (by kernel_rfl) (Qw.l3.ok k)))) Q1.nil))))))) (Qw.body k)
end Go.Am
namespace Go.Am
open Go Go.Proofs
set_option maxRecDepth 100000
def QW.c (k : Nat) {ρ : Type} (r : QhS) (n : Int) (K : QhS × ByteArray × Unit → Option ρ) : Option ρ :=
 let v0 : Int := r.2.2.2.1
 bif (v0 != (0 : Int)) then (K ((r.1, (r.2.1, (r.2.2.1, (r.2.2.2.1, ())))), ((⟨(List.toArray [])⟩ : ByteArray), ()))) else (let v1 : Int := r.2.2.1
 let v2 : Int := r.2.1
 let v3 : Int := (IntKind.wrap IntKind.i64 (v1 - v2))
 let v4 : Int := (IntKind.wrap IntKind.i64 (v3 + n))
 bif (decide (v4 > (4096 : Int))) then (K ((r.1, (r.2.1, (r.2.2.1, ((101 : Int), ())))), ((⟨(List.toArray [])⟩ : ByteArray), ()))) else (let v5 : ByteArray := r.1
 let v6 : Int := r.2.2.1
 let v7 : Int := (IntKind.wrap IntKind.i64 ((((ByteArray.size v5) : Nat) : Int) - v6))
 bif (decide (v7 < n)) then (K ((r.1, (r.2.1, (r.2.2.1, ((4 : Int), ())))), ((⟨(List.toArray [])⟩ : ByteArray), ()))) else (let v8 : Int := r.2.2.1
 let v9 : Int := (IntKind.wrap IntKind.i64 (v8 + n))
 let v10 : ByteArray := r.1
 let v11 : Int := (IntKind.wrap IntKind.i64 (v9 - n))
 bif (decide (((0 : Int) ≤ v11) ∧ ((v11 ≤ v9) ∧ (v9 ≤ (((ByteArray.size v10) : Nat) : Int))))) then (K ((r.1, (r.2.1, (v9, (r.2.2.2.1, ())))), ((ByteArray.extract v10 (Int.toNat v11) (Int.toNat v9)), ()))) else (none))))
def QW (k : Nat) (r : QhS) (n : Int) : Option (QhS × ByteArray × Unit) := QW.c k r n some
def QW.tin : List Ty := [QhM, (.int .i64)]
def QW.tout : List Ty := [QhM, .str]
def QW.sem (k : Nat) : QT := Q00 QW.tin QW.tout fun x => QW k x.1 x.2.1
noncomputable def QW.ctx (k : Nat) : Ctx := ⟨Tryz.prog, gam []⟩
theorem QW.gok (k : Nat) : ∀ f, QI Tryz.prog f ((QW.ctx k).Γ f) := Q01
def QW.ann (k : Nat) : Ann := .nil
theorem QW.body (k : Nat) : Q0W (QW.ctx k) Tryz.f86 (Func.code Tryz.f86) (QW.ann k) QW.tin QW.tout (fun x K => QW.c k x.1 x.2.1 K) := by
 intro ρ x K; kernel_rfl
theorem QW.sem_ok (k : Nat) : QI Tryz.prog 86 (QW.sem k) :=
 QG (C := QW.ctx k) (QW.gok k) Tryz.mix (c := Func.code Tryz.f86) (ann := QW.ann k) (tin := QW.tin) (tout := QW.tout) (fun x K => QW.c k x.1 x.2.1 K) Tryz.func86 (by kernel_rfl) (by kernel_rfl) Q1.nil (QW.body k)
abbrev Qh.l0.σ : Type := ByteArray × Int × Int × QhS × QhS × Unit
abbrev Qh.l0.τ : Type := (Int × QhS × QhS × Unit)
def Qh.l0.r (k : Nat) {ρ : Type} (x : Qh.l0.σ) (kn : Qh.l0.σ → Option ρ) (ke : Qh.l0.τ → Option ρ) : Option ρ :=
 bif (decide (x.2.2.1 ≥ (0 : Int))) then (let v3 : Int := (IntKind.wrap IntKind.u64 ((256 : Int) * x.2.1))
 bif (decide (((0 : Int) ≤ x.2.2.1) ∧ (x.2.2.1 < (((ByteArray.size x.1) : Nat) : Int)))) then (let v4 : Int := (Q1v x.1 (Int.toNat x.2.2.1))
 let v5 : Int := (IntKind.wrap IntKind.u64 (v3 + (IntKind.wrap IntKind.u64 v4)))
 let v6 : Int := (IntKind.wrap IntKind.i64 (x.2.2.1 - (1 : Int)))
 kn (x.1, (v5, (v6, ((x.2.2.2.1.1, (x.2.2.2.1.2.1, (x.2.2.2.1.2.2.1, (x.2.2.2.1.2.2.2.1, ())))), ((x.2.2.2.2.1.1, (x.2.2.2.2.1.2.1, (x.2.2.2.2.1.2.2.1, (x.2.2.2.2.1.2.2.2.1, ())))), ())))))) else (none)) else (ke (x.2.1, ((x.2.2.2.1.1, (x.2.2.2.1.2.1, (x.2.2.2.1.2.2.1, (x.2.2.2.1.2.2.2.1, ())))), ((x.2.2.2.2.1.1, (x.2.2.2.2.1.2.1, (x.2.2.2.2.1.2.2.1, (x.2.2.2.2.1.2.2.2.1, ())))), ()))))
def Qh.l0 (k : Nat) : Nat → Qh.l0.σ → Option Qh.l0.τ := Q15 (Qh.l0.r k)
def Qh.l0.T : StT := ⟨us 2 ++ .ptr 0 [] :: us 1 ++ .ptr 1 [] :: us 1 ++ .dat .str :: .dat (.int .u64) :: .dat (.int .i64) :: us 22, [.dat QhM, .dat QhM]⟩
def Qh.l0.os : List Out := [⟨(.exit 0), [.mask [2, 4, 7], .auto 0], ⟨us 2 ++ .ptr 0 [] :: us 1 ++ .ptr 1 [] :: us 2 ++ .dat (.int .u64) :: us 23, [.dat QhM, .dat QhM]⟩⟩]
def Qh.c (k : Nat) {ρ : Type} (r : QhS) (n : Int) (K : QhS × Int × Unit → Option ρ) : Option ρ :=
 (QW k (r.1, (r.2.1, (r.2.2.1, (r.2.2.2.1, ())))) n).bind fun t0 => let v1 : ByteArray := t0.2.1
 let v2 : Int := (IntKind.wrap IntKind.i64 ((((ByteArray.size v1) : Nat) : Int) - (1 : Int)))
 (Qh.l0 k k (v1, ((0 : Int), (v2, ((t0.1.1, (t0.1.2.1, (t0.1.2.2.1, (t0.1.2.2.2.1, ())))), (((⟨(List.toArray [])⟩ : ByteArray), ((0 : Int), ((0 : Int), ((0 : Int), ())))), ())))))).bind fun t7 => K ((t7.2.1.1, (t7.2.1.2.1, (t7.2.1.2.2.1, (t7.2.1.2.2.2.1, ())))), (t7.1, ()))
def Qh (k : Nat) (r : QhS) (n : Int) : Option (QhS × Int × Unit) := Qh.c k r n some
def Qh.tin : List Ty := [QhM, (.int .i64)]
def Qh.tout : List Ty := [QhM, (.int .u64)]
def Qh.sem (k : Nat) : QT := Q00 Qh.tin Qh.tout fun x => Qh k x.1 x.2.1
noncomputable def Qh.ctx (k : Nat) : Ctx := ⟨Tryz.prog, gam [(86, (QW.sem k))]⟩
theorem Qh.gok (k : Nat) : ∀ f, QI Tryz.prog f ((Qh.ctx k).Γ f) := (Ql (QW.sem_ok k) Q01)
theorem Qh.l0.round (k : Nat) : Q14 (Qh.ctx k) (QP (Func.code Tryz.f84) [1, 1, 1, 0, 1, 0, 0]) (.nil) Qh.l0.T [.mask [2, 4, 6, 7, 8], .auto 0] Qh.l0.os (Qh.l0.r k) := by
 intro ρ x kn ke; kernel_rfl
theorem Qh.l0.ok (k : Nat) : StOK 0 Tryz.prog (.loop (QP (Func.code Tryz.f84) [1, 1, 1, 0, 1, 0, 0])) (Qp Qh.l0.T Qh.l0.os (Qh.l0 k k)) :=
 Q16 (C := Qh.ctx k) (Qh.gok k) Tryz.mix Q1.nil (by kernel_rfl) (by kernel_rfl) (by kernel_rfl) (Qh.l0.round k) k
def Qh.ann (k : Nat) : Ann := .node [] none (.nil) (.node [] none (.nil) (.node [] none (.nil) (.node [] none (.node [] none (.nil) (.node [] none (.node [.mask [2, 4, 6, 7, 8], .auto 0] (some (Qp Qh.l0.T Qh.l0.os (Qh.l0 k k))) .nil .nil) (.nil))) (.nil))))
theorem Qh.body (k : Nat) : Q0W (Qh.ctx k) Tryz.f84 (Func.code Tryz.f84) (Qh.ann k) Qh.tin Qh.tout (fun x K => Qh.c k x.1 x.2.1 K) := by
 intro ρ x K; kernel_rfl
theorem Qh.sem_ok (k : Nat) : QI Tryz.prog 84 (Qh.sem k) :=
 QG (C := Qh.ctx k) (Qh.gok k) Tryz.mix (c := Func.code Tryz.f84) (ann := Qh.ann k) (tin := Qh.tin) (tout := Qh.tout) (fun x K => Qh.c k x.1 x.2.1 K) Tryz.func84 (by kernel_rfl) (by kernel_rfl) (Q1.seq Q1.nil (Q1.seq Q1.nil (Q1.seq Q1.nil (Q1.seq (Q1.seq Q1.nil (Q1.block (Q1.loop (by kernel_rfl) (Qh.l0.ok k)))) Q1.nil)))) (Qh.body k)
abbrev Q6.p0.σ : Type := Int × Int × Int × Int × Int × QhS × QhS × QhS × Unit
abbrev Q6.p0.τ : Type := QhH 
def Q6.p0.r (k : Nat) {ρ : Type} (x : Q6.p0.σ) (K : Q6.p0.τ → Option ρ) : Option ρ :=
 bif (x.2.2.1 == (253 : Int)) then (K (x.1, (x.2.1, (x.2.2.2.1, ((2 : Int), ((x.2.2.2.2.2.1.1, (x.2.2.2.2.2.1.2.1, (x.2.2.2.2.2.1.2.2.1, (x.2.2.2.2.2.1.2.2.2.1, ())))), ((x.2.2.2.2.2.2.1.1, (x.2.2.2.2.2.2.1.2.1, (x.2.2.2.2.2.2.1.2.2.1, (x.2.2.2.2.2.2.1.2.2.2.1, ())))), ((x.2.2.2.2.2.2.2.1.1, (x.2.2.2.2.2.2.2.1.2.1, (x.2.2.2.2.2.2.2.1.2.2.1, (x.2.2.2.2.2.2.2.1.2.2.2.1, ())))), ())))))))) else (bif (x.2.2.1 == (254 : Int)) then (K (x.1, (x.2.1, (x.2.2.2.1, ((4 : Int), ((x.2.2.2.2.2.1.1, (x.2.2.2.2.2.1.2.1, (x.2.2.2.2.2.1.2.2.1, (x.2.2.2.2.2.1.2.2.2.1, ())))), ((x.2.2.2.2.2.2.1.1, (x.2.2.2.2.2.2.1.2.1, (x.2.2.2.2.2.2.1.2.2.1, (x.2.2.2.2.2.2.1.2.2.2.1, ())))), ((x.2.2.2.2.2.2.2.1.1, (x.2.2.2.2.2.2.2.1.2.1, (x.2.2.2.2.2.2.2.1.2.2.1, (x.2.2.2.2.2.2.2.1.2.2.2.1, ())))), ())))))))) else (bif (x.2.2.1 == (255 : Int)) then (K (x.1, (x.2.1, (x.2.2.2.1, ((8 : Int), ((x.2.2.2.2.2.1.1, (x.2.2.2.2.2.1.2.1, (x.2.2.2.2.2.1.2.2.1, (x.2.2.2.2.2.1.2.2.2.1, ())))), ((x.2.2.2.2.2.2.1.1, (x.2.2.2.2.2.2.1.2.1, (x.2.2.2.2.2.2.1.2.2.1, (x.2.2.2.2.2.2.1.2.2.2.1, ())))), ((x.2.2.2.2.2.2.2.1.1, (x.2.2.2.2.2.2.2.1.2.1, (x.2.2.2.2.2.2.2.1.2.2.1, (x.2.2.2.2.2.2.2.1.2.2.2.1, ())))), ())))))))) else (K (x.1, (x.2.1, (x.2.2.2.1, (x.2.2.2.2.1, ((x.2.2.2.2.2.1.1, (x.2.2.2.2.2.1.2.1, (x.2.2.2.2.2.1.2.2.1, (x.2.2.2.2.2.1.2.2.2.1, ())))), ((x.2.2.2.2.2.2.1.1, (x.2.2.2.2.2.2.1.2.1, (x.2.2.2.2.2.2.1.2.2.1, (x.2.2.2.2.2.2.1.2.2.2.1, ())))), ((x.2.2.2.2.2.2.2.1.1, (x.2.2.2.2.2.2.2.1.2.1, (x.2.2.2.2.2.2.2.1.2.2.1, (x.2.2.2.2.2.2.2.1.2.2.2.1, ())))), ()))))))))))
def Q6.p0 (k : Nat) (x : Q6.p0.σ) : Option Q6.p0.τ := Q6.p0.r k x some
def Q6.p0.T : StT := ⟨us 1 ++ .dat (.int .i64) :: .dat (.int .i64) :: .ptr 0 [] :: us 2 ++ .ptr 1 [] :: us 1 ++ .ptr 2 [] :: .dat (.int .u64) :: .dat (.int .u64) :: .dat (.int .i64) :: us 47, [.dat QhM, .dat QhM, .dat QhM]⟩
def Q6.p0.os : List Out := [⟨.normal, [.mask [1, 2, 3, 6, 8, 10, 11], .auto 0], ⟨us 1 ++ .dat (.int .i64) :: .dat (.int .i64) :: .ptr 0 [] :: us 2 ++ .ptr 1 [] :: us 1 ++ .ptr 2 [] :: us 1 ++ .dat (.int .u64) :: .dat (.int .i64) :: us 47, [.dat QhM, .dat QhM, .dat QhM]⟩⟩]
abbrev Q6.p1.σ : Type := Int × Int × Int × Int × QhS × QhS × QhS × Unit
abbrev Q6.p1.τ : Type := QhH 
def Q6.p1.r (k : Nat) {ρ : Type} (x : Q6.p1.σ) (K : Q6.p1.τ → Option ρ) : Option ρ :=
 bif (decide (x.2.2.2.1 > (0 : Int))) then ((Qh k (x.2.2.2.2.1.1, (x.2.2.2.2.1.2.1, (x.2.2.2.2.1.2.2.1, (x.2.2.2.2.1.2.2.2.1, ())))) x.2.2.2.1).bind fun t3 => let v4 : Int := t3.2.1
 K (x.1, (x.2.1, (v4, (x.2.2.2.1, ((t3.1.1, (t3.1.2.1, (t3.1.2.2.1, (t3.1.2.2.2.1, ())))), ((x.2.2.2.2.2.1.1, (x.2.2.2.2.2.1.2.1, (x.2.2.2.2.2.1.2.2.1, (x.2.2.2.2.2.1.2.2.2.1, ())))), ((x.2.2.2.2.2.2.1.1, (x.2.2.2.2.2.2.1.2.1, (x.2.2.2.2.2.2.1.2.2.1, (x.2.2.2.2.2.2.1.2.2.2.1, ())))), ())))))))) else (K (x.1, (x.2.1, (x.2.2.1, (x.2.2.2.1, ((x.2.2.2.2.1.1, (x.2.2.2.2.1.2.1, (x.2.2.2.2.1.2.2.1, (x.2.2.2.2.1.2.2.2.1, ())))), ((x.2.2.2.2.2.1.1, (x.2.2.2.2.2.1.2.1, (x.2.2.2.2.2.1.2.2.1, (x.2.2.2.2.2.1.2.2.2.1, ())))), ((x.2.2.2.2.2.2.1.1, (x.2.2.2.2.2.2.1.2.1, (x.2.2.2.2.2.2.1.2.2.1, (x.2.2.2.2.2.2.1.2.2.2.1, ())))), ()))))))))
def Q6.p1 (k : Nat) (x : Q6.p1.σ) : Option Q6.p1.τ := Q6.p1.r k x some
def Q6.p1.T : StT := ⟨us 1 ++ .dat (.int .i64) :: .dat (.int .i64) :: .ptr 0 [] :: us 2 ++ .ptr 1 [] :: us 1 ++ .ptr 2 [] :: us 1 ++ .dat (.int .u64) :: .dat (.int .i64) :: us 47, [.dat QhM, .dat QhM, .dat QhM]⟩
def Q6.p1.os : List Out := [⟨.normal, [.mask [1, 2, 3, 6, 8, 10, 11], .auto 0], ⟨us 1 ++ .dat (.int .i64) :: .dat (.int .i64) :: .ptr 0 [] :: us 2 ++ .ptr 1 [] :: us 1 ++ .ptr 2 [] :: us 1 ++ .dat (.int .u64) :: .dat (.int .i64) :: us 47, [.dat QhM, .dat QhM, .dat QhM]⟩⟩]
def Q6.c (k : Nat) {ρ : Type} (r : QhS) (most : Int) (e : Int) (K : QhS × Int × Unit → Option ρ) : Option ρ :=
 (Qh k (r.1, (r.2.1, (r.2.2.1, (r.2.2.2.1, ())))) (1 : Int)).bind fun t0 => let v1 : Int := t0.2.1
 (Q6.p0 k (most, (e, (v1, (v1, ((0 : Int), ((t0.1.1, (t0.1.2.1, (t0.1.2.2.1, (t0.1.2.2.2.1, ())))), (((⟨(List.toArray [])⟩ : ByteArray), ((0 : Int), ((0 : Int), ((0 : Int), ())))), ((r.1, (r.2.1, (r.2.2.1, (r.2.2.2.1, ())))), ()))))))))).bind fun t2 => (Q6.p1 k (t2.1, (t2.2.1, (t2.2.2.1, (t2.2.2.2.1, ((t2.2.2.2.2.1.1, (t2.2.2.2.2.1.2.1, (t2.2.2.2.2.1.2.2.1, (t2.2.2.2.2.1.2.2.2.1, ())))), ((t2.2.2.2.2.2.1.1, (t2.2.2.2.2.2.1.2.1, (t2.2.2.2.2.2.1.2.2.1, (t2.2.2.2.2.2.1.2.2.2.1, ())))), ((t2.2.2.2.2.2.2.1.1, (t2.2.2.2.2.2.2.1.2.1, (t2.2.2.2.2.2.2.1.2.2.1, (t2.2.2.2.2.2.2.1.2.2.2.1, ())))), ())))))))).bind fun t5 => let v6 : Int := t5.2.2.2.2.1.2.2.2.1
 bif (v6 != (0 : Int)) then (let v7 : Int := t5.2.2.2.2.2.2.1.2.2.1
 K ((t5.2.2.2.2.1.1, (t5.2.2.2.2.1.2.1, (v7, (t5.2.2.2.2.1.2.2.2.1, ())))), ((0 : Int), ()))) else ((Q04 k t5.2.2.1).bind fun t8 => let v9 : Int := (((ByteArray.size t8.1) : Nat) : Int)
 let v10 : Int := (IntKind.wrap IntKind.i64 ((1 : Int) + t5.2.2.2.1))
 bif (v9 != v10) then (K ((t5.2.2.2.2.1.1, (t5.2.2.2.2.1.2.1, (t5.2.2.2.2.1.2.2.1, ((6 : Int), ())))), ((0 : Int), ()))) else (let v11 : Int := (IntKind.wrap IntKind.u64 t5.1)
 bif (decide (t5.2.2.1 > v11)) then (K ((t5.2.2.2.2.1.1, (t5.2.2.2.2.1.2.1, (t5.2.2.2.2.1.2.2.1, (t5.2.1, ())))), ((0 : Int), ()))) else (let v12 : Int := (IntKind.wrap IntKind.i64 t5.2.2.1)
 K ((t5.2.2.2.2.1.1, (t5.2.2.2.2.1.2.1, (t5.2.2.2.2.1.2.2.1, (t5.2.2.2.2.1.2.2.2.1, ())))), (v12, ())))))
def Q6 (k : Nat) (r : QhS) (most : Int) (e : Int) : Option (QhS × Int × Unit) := Q6.c k r most e some
def Q6.tin : List Ty := [QhM, (.int .i64), (.int .i64)]
def Q6.tout : List Ty := [QhM, (.int .i64)]
def Q6.sem (k : Nat) : QT := Q00 Q6.tin Q6.tout fun x => Q6 k x.1 x.2.1 x.2.2.1
noncomputable def Q6.ctx (k : Nat) : Ctx := ⟨Tryz.prog, gam [(84, (Qh.sem k)), (77, (Q04.sem k))]⟩
theorem Q6.gok (k : Nat) : ∀ f, QI Tryz.prog f ((Q6.ctx k).Γ f) := (Ql (Qh.sem_ok k) (Ql (Q04.sem_ok k) Q01))
theorem Q6.p0.is (k : Nat) : Q22 (Q6.ctx k) (QP (Func.code Tryz.f85) [1, 1, 1, 1, 1, 0]) (.nil) Q6.p0.T Q6.p0.os (Q6.p0.r k) := by
 intro ρ x K; kernel_rfl
theorem Q6.p0.ok (k : Nat) : StOK 0 Tryz.prog (QP (Func.code Tryz.f85) [1, 1, 1, 1, 1, 0]) (Qp Q6.p0.T Q6.p0.os (Q6.p0 k)) :=
 Q1X (C := Q6.ctx k) (T := Q6.p0.T) (os := Q6.p0.os) (Q6.gok k) Tryz.mix (fun x K => Q6.p0.r k x K) Q1.nil (by kernel_rfl) (by kernel_rfl) (Q6.p0.is k)
theorem Q6.p1.is (k : Nat) : Q22 (Q6.ctx k) (QP (Func.code Tryz.f85) [1, 1, 1, 1, 1, 1, 0]) (.nil) Q6.p1.T Q6.p1.os (Q6.p1.r k) := by
 intro ρ x K; kernel_rfl
theorem Q6.p1.ok (k : Nat) : StOK 0 Tryz.prog (QP (Func.code Tryz.f85) [1, 1, 1, 1, 1, 1, 0]) (Qp Q6.p1.T Q6.p1.os (Q6.p1 k)) :=
 Q1X (C := Q6.ctx k) (T := Q6.p1.T) (os := Q6.p1.os) (Q6.gok k) Tryz.mix (fun x K => Q6.p1.r k x K) Q1.nil (by kernel_rfl) (by kernel_rfl) (Q6.p1.is k)
def Q6.ann (k : Nat) : Ann := .node [] none (.nil) (.node [] none (.nil) (.node [] none (.nil) (.node [] none (.nil) (.node [] none (.nil) (.node [] none (.node [.mask [1, 2, 3, 6, 8, 9, 10, 11], .auto 0] (some (Qp Q6.p0.T Q6.p0.os (Q6.p0 k))) .nil .nil) (.node [] none (.node [.mask [1, 2, 3, 6, 8, 10, 11], .auto 0] (some (Qp Q6.p1.T Q6.p1.os (Q6.p1 k))) .nil .nil) (.nil)))))))
theorem Q6.body (k : Nat) : Q0W (Q6.ctx k) Tryz.f85 (Func.code Tryz.f85) (Q6.ann k) Q6.tin Q6.tout (fun x K => Q6.c k x.1 x.2.1 x.2.2.1 K) := by
 intro ρ x K; kernel_rfl
theorem Q6.sem_ok (k : Nat) : QI Tryz.prog 85 (Q6.sem k) :=
 QG (C := Q6.ctx k) (Q6.gok k) Tryz.mix (c := Func.code Tryz.f85) (ann := Q6.ann k) (tin := Q6.tin) (tout := Q6.tout) (fun x K => Q6.c k x.1 x.2.1 x.2.2.1 K) Tryz.func85 (by kernel_rfl) (by kernel_rfl) (Q1.seq Q1.nil (Q1.seq Q1.nil (Q1.seq Q1.nil (Q1.seq Q1.nil (Q1.seq Q1.nil (Q1.seq (Q1.loop (by kernel_rfl) (Q6.p0.ok k)) (Q1.seq (Q1.loop (by kernel_rfl) (Q6.p1.ok k)) Q1.nil))))))) (Q6.body k)
abbrev Q0.p0.σ : Type := ByteArray × Int × QhT × Unit
abbrev Q0.p0.τ : Type := (Int × Int × QhT × Unit) ⊕ (ByteArray × Int × QhT × Unit)
def Q0.p0.r (k : Nat) {ρ : Type} (x : Q0.p0.σ) (K : Q0.p0.τ → Option ρ) : Option ρ :=
 bif (decide (x.2.1 < (0 : Int))) then (K (.inl ((0 : Int), ((1 : Int), (((0 : Int), ((), ((), ((0 : Int), ())))), ()))))) else (let v0 : Int := (((ByteArray.size x.1) : Nat) : Int)
 bif (decide (x.2.1 > v0)) then (K (.inl ((0 : Int), ((1 : Int), (((0 : Int), ((), ((), ((0 : Int), ())))), ()))))) else (K (.inr (x.1, (x.2.1, ((x.2.2.1.1, ((), ((), (x.2.2.1.2.2.2.1, ())))), ()))))))
def Q0.p0 (k : Nat) (x : Q0.p0.σ) : Option Q0.p0.τ := Q0.p0.r k x some
def Q0.p0.T : StT := ⟨.dat .str :: .dat (.int .i64) :: us 2 ++ .ptr 0 [] :: us 161, [.pair (.dat (.int .u32)) (.pair (.nils) (.pair (.nils) (.dat QhX)))]⟩
def Q0.p0.os : List Out := [⟨.ret, [.mask [4, 5, 6], .auto 0], ⟨us 4 ++ .ptr 0 [] :: .dat (.int .i64) :: .dat (.int .i64) :: us 159, [.pair (.dat (.int .u32)) (.pair (.nils) (.pair (.nils) (.dat QhX)))]⟩⟩, ⟨.normal, [.mask [0, 1, 4], .auto 0], ⟨.dat .str :: .dat (.int .i64) :: us 2 ++ .ptr 0 [] :: us 161, [.pair (.dat (.int .u32)) (.pair (.nils) (.pair (.nils) (.dat QhX)))]⟩⟩]
abbrev Q0.p2.σ : Type := Int × Int × QhT × QhS × QhT × QhQ × Unit
abbrev Q0.p2.τ : Type := (Int × Int × QhT × QhS × QhT × QhQ × Unit) ⊕ QhG 
def Q0.p2.r (k : Nat) {ρ : Type} (x : Q0.p2.σ) (K : Q0.p2.τ → Option ρ) : Option ρ :=
 bif (decide (x.2.1 < x.1)) then (let v8 : Int := x.2.2.2.1.2.2.2.1
 bif (v8 == (0 : Int)) then (K (.inl (x.1, (x.2.1, ((x.2.2.1.1, ((), ((), (x.2.2.1.2.2.2.1, ())))), ((x.2.2.2.1.1, (x.2.2.2.1.2.1, (x.2.2.2.1.2.2.1, (x.2.2.2.1.2.2.2.1, ())))), ((x.2.2.2.2.1.1, ((), ((), (x.2.2.2.2.1.2.2.2.1, ())))), (x.2.2.2.2.2.1, ())))))))) else (K (.inr ((x.2.2.1.1, ((), ((), (x.2.2.1.2.2.2.1, ())))), ((x.2.2.2.1.1, (x.2.2.2.1.2.1, (x.2.2.2.1.2.2.1, (x.2.2.2.1.2.2.2.1, ())))), ((x.2.2.2.2.1.1, ((), ((), (x.2.2.2.2.1.2.2.2.1, ())))), (x.2.2.2.2.2.1, ()))))))) else (K (.inr ((x.2.2.1.1, ((), ((), (x.2.2.1.2.2.2.1, ())))), ((x.2.2.2.1.1, (x.2.2.2.1.2.1, (x.2.2.2.1.2.2.1, (x.2.2.2.1.2.2.2.1, ())))), ((x.2.2.2.2.1.1, ((), ((), (x.2.2.2.2.1.2.2.2.1, ())))), (x.2.2.2.2.2.1, ()))))))
def Q0.p2 (k : Nat) (x : Q0.p2.σ) : Option Q0.p2.τ := Q0.p2.r k x some
def Q0.p2.T : StT := ⟨us 4 ++ .ptr 0 [] :: us 2 ++ .ptr 1 [] :: .ptr 2 [] :: us 1 ++ .dat (.int .i64) :: .dat (.int .i64) :: us 154, [.pair (.dat (.int .u32)) (.pair (.nils) (.pair (.nils) (.dat QhX))), .dat QhM, .pair (.dat (.int .u32)) (.pair (.vsl 3) (.pair (.nils) (.dat QhX))), .vec QhL]⟩
def Q0.p2.os : List Out := [⟨.normal, [.mask [4, 7, 8, 10, 11], .auto 0], ⟨us 4 ++ .ptr 0 [] :: us 2 ++ .ptr 1 [] :: .ptr 2 [] :: us 1 ++ .dat (.int .i64) :: .dat (.int .i64) :: us 154, [.pair (.dat (.int .u32)) (.pair (.nils) (.pair (.nils) (.dat QhX))), .dat QhM, .pair (.dat (.int .u32)) (.pair (.vsl 3) (.pair (.nils) (.dat QhX))), .vec QhL]⟩⟩, ⟨(.exit 0), [.mask [4, 7, 8], .auto 0], ⟨us 4 ++ .ptr 0 [] :: us 2 ++ .ptr 1 [] :: .ptr 2 [] :: us 157, [.pair (.dat (.int .u32)) (.pair (.nils) (.pair (.nils) (.dat QhX))), .dat QhM, .pair (.dat (.int .u32)) (.pair (.vsl 3) (.pair (.nils) (.dat QhX))), .vec QhL]⟩⟩]
abbrev Q0.l3.σ : Type := Int × Int × ByteArray × Int × QhT × QhS × QhT × QhQ × ((List Int) × (Int × (ByteArray × (Int × Unit)))) × Unit
abbrev Q0.l3.τ : Type := (Int × Int × QhT × QhS × QhT × QhQ × ((List Int) × (Int × (ByteArray × (Int × Unit)))) × Unit)
def Q0.l3.r (k : Nat) {ρ : Type} (x : Q0.l3.σ) (kn : Q0.l3.σ → Option ρ) (ke : Q0.l3.τ → Option ρ) : Option ρ :=
 let v13 : Int := (((ByteArray.size x.2.2.1) : Nat) : Int)
 bif (decide (x.2.2.2.1 < v13)) then (bif (decide (((0 : Int) ≤ x.2.2.2.1) ∧ (x.2.2.2.1 < (((ByteArray.size x.2.2.1) : Nat) : Int)))) then (let v14 : Int := (Q1v x.2.2.1 (Int.toNat x.2.2.2.1))
 bif (decide (((0 : Int) ≤ x.2.2.2.1) ∧ (x.2.2.2.1 < ((32 : Nat) : Int)))) then (let v15 : Int := (IntKind.wrap IntKind.i64 (x.2.2.2.1 + (1 : Int)))
 kn (x.1, (x.2.1, (x.2.2.1, (v15, ((x.2.2.2.2.1.1, ((), ((), (x.2.2.2.2.1.2.2.2.1, ())))), ((x.2.2.2.2.2.1.1, (x.2.2.2.2.2.1.2.1, (x.2.2.2.2.2.1.2.2.1, (x.2.2.2.2.2.1.2.2.2.1, ())))), ((x.2.2.2.2.2.2.1.1, ((), ((), (x.2.2.2.2.2.2.1.2.2.2.1, ())))), (x.2.2.2.2.2.2.2.1, (((List.set x.2.2.2.2.2.2.2.2.1.1 (Int.toNat x.2.2.2.1) v14), (x.2.2.2.2.2.2.2.2.1.2.1, (x.2.2.2.2.2.2.2.2.1.2.2.1, (x.2.2.2.2.2.2.2.2.1.2.2.2.1, ())))), ())))))))))) else (none)) else (none)) else (ke (x.1, (x.2.1, ((x.2.2.2.2.1.1, ((), ((), (x.2.2.2.2.1.2.2.2.1, ())))), ((x.2.2.2.2.2.1.1, (x.2.2.2.2.2.1.2.1, (x.2.2.2.2.2.1.2.2.1, (x.2.2.2.2.2.1.2.2.2.1, ())))), ((x.2.2.2.2.2.2.1.1, ((), ((), (x.2.2.2.2.2.2.1.2.2.2.1, ())))), (x.2.2.2.2.2.2.2.1, ((x.2.2.2.2.2.2.2.2.1.1, (x.2.2.2.2.2.2.2.2.1.2.1, (x.2.2.2.2.2.2.2.2.1.2.2.1, (x.2.2.2.2.2.2.2.2.1.2.2.2.1, ())))), ()))))))))
def Q0.l3 (k : Nat) : Nat → Q0.l3.σ → Option Q0.l3.τ := Q15 (Q0.l3.r k)
def Q0.l3.T : StT := ⟨us 4 ++ .ptr 0 [] :: us 2 ++ .ptr 1 [] :: .ptr 2 [] :: us 1 ++ .dat (.int .i64) :: .dat (.int .i64) :: .ptr 4 [] :: .dat .str :: .dat (.int .i64) :: us 151, [.pair (.dat (.int .u32)) (.pair (.nils) (.pair (.nils) (.dat QhX))), .dat QhM, .pair (.dat (.int .u32)) (.pair (.vsl 3) (.pair (.nils) (.dat QhX))), .vec QhL, .dat QhL]⟩
def Q0.l3.os : List Out := [⟨(.exit 2), [.mask [4, 7, 8, 10, 11, 12], .auto 0], ⟨us 4 ++ .ptr 0 [] :: us 2 ++ .ptr 1 [] :: .ptr 2 [] :: us 1 ++ .dat (.int .i64) :: .dat (.int .i64) :: .ptr 4 [] :: us 153, [.pair (.dat (.int .u32)) (.pair (.nils) (.pair (.nils) (.dat QhX))), .dat QhM, .pair (.dat (.int .u32)) (.pair (.vsl 3) (.pair (.nils) (.dat QhX))), .vec QhL, .dat QhL]⟩⟩]
abbrev Q0.l1.σ : Type := Int × Int × QhT × QhS × QhT × QhQ × Unit
abbrev Q0.l1.τ : Type := QhG 
def Q0.l1.r (k : Nat) {ρ : Type} (x : Q0.l1.σ) (kn : Q0.l1.σ → Option ρ) (ke : Q0.l1.τ → Option ρ) : Option ρ :=
 (Q0.p2 k (x.1, (x.2.1, ((x.2.2.1.1, ((), ((), (x.2.2.1.2.2.2.1, ())))), ((x.2.2.2.1.1, (x.2.2.2.1.2.1, (x.2.2.2.1.2.2.1, (x.2.2.2.1.2.2.2.1, ())))), ((x.2.2.2.2.1.1, ((), ((), (x.2.2.2.2.1.2.2.2.1, ())))), (x.2.2.2.2.2.1, ()))))))).bind fun t9 => (match t9 with | .inl t10 => ((QW k (t10.2.2.2.1.1, (t10.2.2.2.1.2.1, (t10.2.2.2.1.2.2.1, (t10.2.2.2.1.2.2.2.1, ())))) (32 : Int)).bind fun t11 => let v12 : ByteArray := t11.2.1
 (Q0.l3 k k (t10.1, (t10.2.1, (v12, ((0 : Int), ((t10.2.2.1.1, ((), ((), (t10.2.2.1.2.2.2.1, ())))), ((t11.1.1, (t11.1.2.1, (t11.1.2.2.1, (t11.1.2.2.2.1, ())))), ((t10.2.2.2.2.1.1, ((), ((), (t10.2.2.2.2.1.2.2.2.1, ())))), (t10.2.2.2.2.2.1, (((List.replicate 32 (0 : Int)), ((0 : Int), ((⟨(List.toArray [])⟩ : ByteArray), ((0 : Int), ())))), ())))))))))).bind fun t16 => (Qh k (t16.2.2.2.1.1, (t16.2.2.2.1.2.1, (t16.2.2.2.1.2.2.1, (t16.2.2.2.1.2.2.2.1, ())))) (4 : Int)).bind fun t17 => let v18 : Int := t17.2.1
 (Q6 k (t17.1.1, (t17.1.2.1, (t17.1.2.2.1, (t17.1.2.2.2.1, ())))) (520 : Int) (100 : Int)).bind fun t19 => let v20 : Int := t19.2.1
 (QW k (t19.1.1, (t19.1.2.1, (t19.1.2.2.1, (t19.1.2.2.2.1, ())))) v20).bind fun t21 => let v22 : ByteArray := t21.2.1
 (Qh k (t21.1.1, (t21.1.2.1, (t21.1.2.2.1, (t21.1.2.2.2.1, ())))) (4 : Int)).bind fun t23 => let v24 : Int := t23.2.1
 bif (Nat.ble (((List.length t16.2.2.2.2.2.1) + (List.length (List.set (List.replicate 1 ((List.replicate 32 (0 : Int)), ((0 : Int), (ByteArray.empty, ((0 : Int), ()))))) 0 (t16.2.2.2.2.2.2.1.1, ((IntKind.wrap IntKind.u32 v18), (v22, ((IntKind.wrap IntKind.u32 v24), ()))))))) * 64) 140737488355328) then (let v25 : Int := (IntKind.wrap IntKind.i64 (t16.2.1 + (1 : Int)))
 kn (t16.1, (v25, ((t16.2.2.1.1, ((), ((), (t16.2.2.1.2.2.2.1, ())))), ((t23.1.1, (t23.1.2.1, (t23.1.2.2.1, (t23.1.2.2.2.1, ())))), ((t16.2.2.2.2.1.1, ((), ((), (t16.2.2.2.2.1.2.2.2.1, ())))), ((t16.2.2.2.2.2.1 ++ (List.set (List.replicate 1 ((List.replicate 32 (0 : Int)), ((0 : Int), (ByteArray.empty, ((0 : Int), ()))))) 0 (t16.2.2.2.2.2.2.1.1, ((IntKind.wrap IntKind.u32 v18), (v22, ((IntKind.wrap IntKind.u32 v24), ())))))), ()))))))) else (none)) | .inr (t26) => (ke ((t26.1.1, ((), ((), (t26.1.2.2.2.1, ())))), ((t26.2.1.1, (t26.2.1.2.1, (t26.2.1.2.2.1, (t26.2.1.2.2.2.1, ())))), ((t26.2.2.1.1, ((), ((), (t26.2.2.1.2.2.2.1, ())))), (t26.2.2.2.1, ()))))))
def Q0.l1 (k : Nat) : Nat → Q0.l1.σ → Option Q0.l1.τ := Q15 (Q0.l1.r k)
def Q0.l1.T : StT := ⟨us 4 ++ .ptr 0 [] :: us 2 ++ .ptr 1 [] :: .ptr 2 [] :: us 1 ++ .dat (.int .i64) :: .dat (.int .i64) :: us 154, [.pair (.dat (.int .u32)) (.pair (.nils) (.pair (.nils) (.dat QhX))), .dat QhM, .pair (.dat (.int .u32)) (.pair (.vsl 3) (.pair (.nils) (.dat QhX))), .vec QhL]⟩
def Q0.l1.os : List Out := [⟨(.exit 0), [.mask [4, 7, 8], .auto 0], ⟨us 4 ++ .ptr 0 [] :: us 2 ++ .ptr 1 [] :: .ptr 2 [] :: us 157, [.pair (.dat (.int .u32)) (.pair (.nils) (.pair (.nils) (.dat QhX))), .dat QhM, .pair (.dat (.int .u32)) (.pair (.vsl 3) (.pair (.nils) (.dat QhX))), .vec QhL]⟩⟩]
abbrev Q0.p5.σ : Type := Int × Int × QhT × QhS × QhT × QhQ × QhW × Unit
abbrev Q0.p5.τ : Type := (Int × Int × QhT × QhS × QhT × QhQ × QhW × Unit) ⊕ QhE 
def Q0.p5.r (k : Nat) {ρ : Type} (x : Q0.p5.σ) (K : Q0.p5.τ → Option ρ) : Option ρ :=
 bif (decide (x.2.1 < x.1)) then (let v30 : Int := x.2.2.2.1.2.2.2.1
 bif (v30 == (0 : Int)) then (K (.inl (x.1, (x.2.1, ((x.2.2.1.1, ((), ((), (x.2.2.1.2.2.2.1, ())))), ((x.2.2.2.1.1, (x.2.2.2.1.2.1, (x.2.2.2.1.2.2.1, (x.2.2.2.1.2.2.2.1, ())))), ((x.2.2.2.2.1.1, ((), ((), (x.2.2.2.2.1.2.2.2.1, ())))), (x.2.2.2.2.2.1, (x.2.2.2.2.2.2.1, ()))))))))) else (K (.inr ((x.2.2.1.1, ((), ((), (x.2.2.1.2.2.2.1, ())))), ((x.2.2.2.1.1, (x.2.2.2.1.2.1, (x.2.2.2.1.2.2.1, (x.2.2.2.1.2.2.2.1, ())))), ((x.2.2.2.2.1.1, ((), ((), (x.2.2.2.2.1.2.2.2.1, ())))), (x.2.2.2.2.2.1, (x.2.2.2.2.2.2.1, ())))))))) else (K (.inr ((x.2.2.1.1, ((), ((), (x.2.2.1.2.2.2.1, ())))), ((x.2.2.2.1.1, (x.2.2.2.1.2.1, (x.2.2.2.1.2.2.1, (x.2.2.2.1.2.2.2.1, ())))), ((x.2.2.2.2.1.1, ((), ((), (x.2.2.2.2.1.2.2.2.1, ())))), (x.2.2.2.2.2.1, (x.2.2.2.2.2.2.1, ())))))))
def Q0.p5 (k : Nat) (x : Q0.p5.σ) : Option Q0.p5.τ := Q0.p5.r k x some
def Q0.p5.T : StT := ⟨us 4 ++ .ptr 0 [] :: us 2 ++ .ptr 1 [] :: .ptr 2 [] :: us 7 ++ .dat (.int .i64) :: .dat (.int .i64) :: us 148, [.pair (.dat (.int .u32)) (.pair (.nils) (.pair (.nils) (.dat QhX))), .dat QhM, .pair (.dat (.int .u32)) (.pair (.vsl 3) (.pair (.vsl 4) (.dat QhX))), .vec QhL, .vec QhU]⟩
def Q0.p5.os : List Out := [⟨.normal, [.mask [4, 7, 8, 16, 17], .auto 0], ⟨us 4 ++ .ptr 0 [] :: us 2 ++ .ptr 1 [] :: .ptr 2 [] :: us 7 ++ .dat (.int .i64) :: .dat (.int .i64) :: us 148, [.pair (.dat (.int .u32)) (.pair (.nils) (.pair (.nils) (.dat QhX))), .dat QhM, .pair (.dat (.int .u32)) (.pair (.vsl 3) (.pair (.vsl 4) (.dat QhX))), .vec QhL, .vec QhU]⟩⟩, ⟨(.exit 4), [.mask [4, 7, 8], .auto 0], ⟨us 4 ++ .ptr 0 [] :: us 2 ++ .ptr 1 [] :: .ptr 2 [] :: us 157, [.pair (.dat (.int .u32)) (.pair (.nils) (.pair (.nils) (.dat QhX))), .dat QhM, .pair (.dat (.int .u32)) (.pair (.vsl 3) (.pair (.vsl 4) (.dat QhX))), .vec QhL, .vec QhU]⟩⟩]
abbrev Q0.l4.σ : Type := Int × Int × QhT × QhS × QhT × QhQ × QhW × Unit
abbrev Q0.l4.τ : Type := QhE 
def Q0.l4.r (k : Nat) {ρ : Type} (x : Q0.l4.σ) (kn : Q0.l4.σ → Option ρ) (ke : Q0.l4.τ → Option ρ) : Option ρ :=
 (Q0.p5 k (x.1, (x.2.1, ((x.2.2.1.1, ((), ((), (x.2.2.1.2.2.2.1, ())))), ((x.2.2.2.1.1, (x.2.2.2.1.2.1, (x.2.2.2.1.2.2.1, (x.2.2.2.1.2.2.2.1, ())))), ((x.2.2.2.2.1.1, ((), ((), (x.2.2.2.2.1.2.2.2.1, ())))), (x.2.2.2.2.2.1, (x.2.2.2.2.2.2.1, ())))))))).bind fun t31 => (match t31 with | .inl t32 => ((Qh k (t32.2.2.2.1.1, (t32.2.2.2.1.2.1, (t32.2.2.2.1.2.2.1, (t32.2.2.2.1.2.2.2.1, ())))) (8 : Int)).bind fun t33 => let v34 : Int := t33.2.1
 (Q6 k (t33.1.1, (t33.1.2.1, (t33.1.2.2.1, (t33.1.2.2.2.1, ())))) (520 : Int) (100 : Int)).bind fun t35 => let v36 : Int := t35.2.1
 (QW k (t35.1.1, (t35.1.2.1, (t35.1.2.2.1, (t35.1.2.2.2.1, ())))) v36).bind fun t37 => let v38 : ByteArray := t37.2.1
 bif (Nat.ble (((List.length t32.2.2.2.2.2.2.1) + (List.length (List.set (List.replicate 1 ((0 : Int), (ByteArray.empty, ()))) 0 (v34, (v38, ()))))) * 24) 140737488355328) then (let v39 : Int := (IntKind.wrap IntKind.i64 (t32.2.1 + (1 : Int)))
 kn (t32.1, (v39, ((t32.2.2.1.1, ((), ((), (t32.2.2.1.2.2.2.1, ())))), ((t37.1.1, (t37.1.2.1, (t37.1.2.2.1, (t37.1.2.2.2.1, ())))), ((t32.2.2.2.2.1.1, ((), ((), (t32.2.2.2.2.1.2.2.2.1, ())))), (t32.2.2.2.2.2.1, ((t32.2.2.2.2.2.2.1 ++ (List.set (List.replicate 1 ((0 : Int), (ByteArray.empty, ()))) 0 (v34, (v38, ())))), ())))))))) else (none)) | .inr (t40) => (ke ((t40.1.1, ((), ((), (t40.1.2.2.2.1, ())))), ((t40.2.1.1, (t40.2.1.2.1, (t40.2.1.2.2.1, (t40.2.1.2.2.2.1, ())))), ((t40.2.2.1.1, ((), ((), (t40.2.2.1.2.2.2.1, ())))), (t40.2.2.2.1, (t40.2.2.2.2.1, ())))))))
def Q0.l4 (k : Nat) : Nat → Q0.l4.σ → Option Q0.l4.τ := Q15 (Q0.l4.r k)
def Q0.l4.T : StT := ⟨us 4 ++ .ptr 0 [] :: us 2 ++ .ptr 1 [] :: .ptr 2 [] :: us 7 ++ .dat (.int .i64) :: .dat (.int .i64) :: us 148, [.pair (.dat (.int .u32)) (.pair (.nils) (.pair (.nils) (.dat QhX))), .dat QhM, .pair (.dat (.int .u32)) (.pair (.vsl 3) (.pair (.vsl 4) (.dat QhX))), .vec QhL, .vec QhU]⟩
def Q0.l4.os : List Out := [⟨(.exit 4), [.mask [4, 7, 8], .auto 0], ⟨us 4 ++ .ptr 0 [] :: us 2 ++ .ptr 1 [] :: .ptr 2 [] :: us 157, [.pair (.dat (.int .u32)) (.pair (.nils) (.pair (.nils) (.dat QhX))), .dat QhM, .pair (.dat (.int .u32)) (.pair (.vsl 3) (.pair (.vsl 4) (.dat QhX))), .vec QhL, .vec QhU]⟩⟩]
def Q0.c (k : Nat) {ρ : Type} (s : ByteArray) (at_1 : Int) (K : QhJ × Int × Int × Unit → Option ρ) : Option ρ :=
 (Q0.p0 k (s, (at_1, (((0 : Int), ((), ((), ((0 : Int), ())))), ())))).bind fun t1 => (match t1 with | .inl t2 => (K ((t2.2.2.1.1, ([], ([], (t2.2.2.1.2.2.2.1, ())))), (t2.1, (t2.2.1, ())))) | .inr (t3) => ((Qh k (t3.1, (t3.2.1, (t3.2.1, ((0 : Int), ())))) (4 : Int)).bind fun t4 => let v5 : Int := t4.2.1
 (Q6 k (t4.1.1, (t4.1.2.1, (t4.1.2.2.1, (t4.1.2.2.2.1, ())))) (4096 : Int) (5 : Int)).bind fun t6 => let v7 : Int := t6.2.1
 (Q0.l1 k k (v7, ((0 : Int), ((t3.2.2.1.1, ((), ((), (t3.2.2.1.2.2.2.1, ())))), ((t6.1.1, (t6.1.2.1, (t6.1.2.2.1, (t6.1.2.2.2.1, ())))), (((IntKind.wrap IntKind.u32 v5), ((), ((), ((0 : Int), ())))), ([], ()))))))).bind fun t27 => (Q6 k (t27.2.1.1, (t27.2.1.2.1, (t27.2.1.2.2.1, (t27.2.1.2.2.2.1, ())))) (4096 : Int) (5 : Int)).bind fun t28 => let v29 : Int := t28.2.1
 (Q0.l4 k k (v29, ((0 : Int), ((t27.1.1, ((), ((), (t27.1.2.2.2.1, ())))), ((t28.1.1, (t28.1.2.1, (t28.1.2.2.1, (t28.1.2.2.2.1, ())))), ((t27.2.2.1.1, ((), ((), (t27.2.2.1.2.2.2.1, ())))), (t27.2.2.2.1, ([], ())))))))).bind fun t41 => (Qh k (t41.2.1.1, (t41.2.1.2.1, (t41.2.1.2.2.1, (t41.2.1.2.2.2.1, ())))) (4 : Int)).bind fun t42 => let v43 : Int := t42.2.1
 let v44 : Int := t42.1.2.2.2.1
 bif (v44 != (0 : Int)) then (let v45 : Int := t42.1.2.2.2.1
 K (((0 : Int), ([], ([], ((0 : Int), ())))), ((0 : Int), (v45, ())))) else (let v46 : Int := t42.1.2.2.1
 K ((t41.2.2.1.1, (t41.2.2.2.1, (t41.2.2.2.2.1, ((IntKind.wrap IntKind.u32 v43), ())))), (v46, ((0 : Int), ()))))))
def Q0 (k : Nat) (s : ByteArray) (at_1 : Int) : Option (QhJ × Int × Int × Unit) := Q0.c k s at_1 some
def Q0.tin : List Ty := [.str, (.int .i64)]
def Q0.tout : List Ty := [(.pair (.int .u32) (.pair (.sl QhL) QhN)), (.int .i64), (.int .i64)]
def Q0.sem (k : Nat) : QT := Q00 Q0.tin Q0.tout fun x => Q0 k x.1 x.2.1
noncomputable def Q0.ctx (k : Nat) : Ctx := ⟨Tryz.prog, gam [(84, (Qh.sem k)), (85, (Q6.sem k)), (86, (QW.sem k))]⟩
theorem Q0.gok (k : Nat) : ∀ f, QI Tryz.prog f ((Q0.ctx k).Γ f) := (Ql (Qh.sem_ok k) (Ql (Q6.sem_ok k) (Ql (QW.sem_ok k) Q01)))
theorem Q0.p0.is (k : Nat) : Q22 (Q0.ctx k) (QP (Func.code Tryz.f52) [1, 0]) (.nil) Q0.p0.T Q0.p0.os (Q0.p0.r k) := by
 intro ρ x K; kernel_rfl
theorem Q0.p0.ok (k : Nat) : StOK 0 Tryz.prog (QP (Func.code Tryz.f52) [1, 0]) (Qp Q0.p0.T Q0.p0.os (Q0.p0 k)) :=
 Q1X (C := Q0.ctx k) (T := Q0.p0.T) (os := Q0.p0.os) (Q0.gok k) Tryz.mix (fun x K => Q0.p0.r k x K) Q1.nil (by kernel_rfl) (by kernel_rfl) (Q0.p0.is k)
theorem Q0.p2.is (k : Nat) : Q22 (Q0.ctx k) (QP (Func.code Tryz.f52) [1, 1, 1, 1, 1, 1, 1, 0, 1, 0, 0, 0]) (.nil) Q0.p2.T Q0.p2.os (Q0.p2.r k) := by
 intro ρ x K; kernel_rfl
theorem Q0.p2.ok (k : Nat) : StOK 0 Tryz.prog (QP (Func.code Tryz.f52) [1, 1, 1, 1, 1, 1, 1, 0, 1, 0, 0, 0]) (Qp Q0.p2.T Q0.p2.os (Q0.p2 k)) :=
 Q1X (C := Q0.ctx k) (T := Q0.p2.T) (os := Q0.p2.os) (Q0.gok k) Tryz.mix (fun x K => Q0.p2.r k x K) Q1.nil (by kernel_rfl) (by kernel_rfl) (Q0.p2.is k)
theorem Q0.l3.round (k : Nat) : Q14 (Q0.ctx k) (QP (Func.code Tryz.f52) [1, 1, 1, 1, 1, 1, 1, 0, 1, 0, 0, 1, 0, 0, 1, 1, 1, 0, 1, 0, 0]) (.nil) Q0.l3.T [.mask [4, 7, 8, 10, 11, 12, 13, 14], .auto 0] Q0.l3.os (Q0.l3.r k) := by
 intro ρ x kn ke; kernel_rfl
theorem Q0.l3.ok (k : Nat) : StOK 0 Tryz.prog (.loop (QP (Func.code Tryz.f52) [1, 1, 1, 1, 1, 1, 1, 0, 1, 0, 0, 1, 0, 0, 1, 1, 1, 0, 1, 0, 0])) (Qp Q0.l3.T Q0.l3.os (Q0.l3 k k)) :=
 Q16 (C := Q0.ctx k) (Q0.gok k) Tryz.mix Q1.nil (by kernel_rfl) (by kernel_rfl) (by kernel_rfl) (Q0.l3.round k) k
theorem Q0.l1.round (k : Nat) : Q14 (Q0.ctx k) (QP (Func.code Tryz.f52) [1, 1, 1, 1, 1, 1, 1, 0, 1, 0, 0]) (.node [] none (.node [.mask [4, 7, 8, 10, 11], .auto 0] (some (Qp Q0.p2.T Q0.p2.os (Q0.p2 k))) .nil .nil) (.node [] none (.node [] none (.node [] none (.nil) (.node [] none (.nil) (.node [] none (.nil) (.node [] none (.node [] none (.nil) (.node [] none (.node [.mask [4, 7, 8, 10, 11, 12, 13, 14], .auto 0] (some (Qp Q0.l3.T Q0.l3.os (Q0.l3 k k))) .nil .nil) (.nil))) (.nil))))) (.nil)) (.nil))) Q0.l1.T [.mask [4, 7, 8, 10, 11], .auto 0] Q0.l1.os (Q0.l1.r k) := by
 intro ρ x kn ke; kernel_rfl
theorem Q0.l1.ok (k : Nat) : StOK 0 Tryz.prog (.loop (QP (Func.code Tryz.f52) [1, 1, 1, 1, 1, 1, 1, 0, 1, 0, 0])) (Qp Q0.l1.T Q0.l1.os (Q0.l1 k k)) :=
 Q16 (C := Q0.ctx k) (Q0.gok k) Tryz.mix (Q1.seq (Q1.loop (by kernel_rfl) (Q0.p2.ok k)) (Q1.seq (Q1.block (Q1.seq Q1.nil (Q1.seq Q1.nil (Q1.seq Q1.nil (Q1.seq (Q1.seq Q1.nil (Q1.block (Q1.loop (by kernel_rfl) (Q0.l3.ok k)))) Q1.nil))))) Q1.nil)) (by kernel_rfl) (by kernel_rfl) (by kernel_rfl) (Q0.l1.round k) k
theorem Q0.p5.is (k : Nat) : Q22 (Q0.ctx k) (QP (Func.code Tryz.f52) [1, 1, 1, 1, 1, 1, 1, 1, 1, 0, 1, 0, 0, 0]) (.nil) Q0.p5.T Q0.p5.os (Q0.p5.r k) := by
 intro ρ x K; kernel_rfl
theorem Q0.p5.ok (k : Nat) : StOK 0 Tryz.prog (QP (Func.code Tryz.f52) [1, 1, 1, 1, 1, 1, 1, 1, 1, 0, 1, 0, 0, 0]) (Qp Q0.p5.T Q0.p5.os (Q0.p5 k)) :=
 Q1X (C := Q0.ctx k) (T := Q0.p5.T) (os := Q0.p5.os) (Q0.gok k) Tryz.mix (fun x K => Q0.p5.r k x K) Q1.nil (by kernel_rfl) (by kernel_rfl) (Q0.p5.is k)
theorem Q0.l4.round (k : Nat) : Q14 (Q0.ctx k) (QP (Func.code Tryz.f52) [1, 1, 1, 1, 1, 1, 1, 1, 1, 0, 1, 0, 0]) (.node [] none (.node [.mask [4, 7, 8, 16, 17], .auto 0] (some (Qp Q0.p5.T Q0.p5.os (Q0.p5 k))) .nil .nil) (.nil)) Q0.l4.T [.mask [4, 7, 8, 16, 17], .auto 0] Q0.l4.os (Q0.l4.r k) := by
 intro ρ x kn ke; kernel_rfl
theorem Q0.l4.ok (k : Nat) : StOK 0 Tryz.prog (.loop (QP (Func.code Tryz.f52) [1, 1, 1, 1, 1, 1, 1, 1, 1, 0, 1, 0, 0])) (Qp Q0.l4.T Q0.l4.os (Q0.l4 k k)) :=
 Q16 (C := Q0.ctx k) (Q0.gok k) Tryz.mix (Q1.seq (Q1.loop (by kernel_rfl) (Q0.p5.ok k)) Q1.nil) (by kernel_rfl) (by kernel_rfl) (by kernel_rfl) (Q0.l4.round k) k
def Q0.ann (k : Nat) : Ann := .node [] none (.nil) (.node [] none (.node [.mask [0, 1, 4], .auto 0] (some (Qp Q0.p0.T Q0.p0.os (Q0.p0 k))) .nil .nil) (.node [] none (.nil) (.node [] none (.nil) (.node [] none (.nil) (.node [] none (.nil) (.node [] none (.nil) (.node [] none (.node [] none (.nil) (.node [] none (.node [.mask [4, 7, 8, 10, 11], .auto 0, .own (.blk 2 [1]) QhL] (some (Qp Q0.l1.T Q0.l1.os (Q0.l1 k k))) .nil .nil) (.nil))) (.node [] none (.nil) (.node [] none (.node [] none (.nil) (.node [] none (.node [.mask [4, 7, 8, 16, 17], .auto 0, .own (.blk 2 [2]) QhU] (some (Qp Q0.l4.T Q0.l4.os (Q0.l4 k k))) .nil .nil) (.nil))) (.nil))))))))))
theorem Q0.body (k : Nat) : Q0W (Q0.ctx k) Tryz.f52 (Func.code Tryz.f52) (Q0.ann k) Q0.tin Q0.tout (fun x K => Q0.c k x.1 x.2.1 K) := by
 intro ρ x K; kernel_rfl
theorem Q0.sem_ok (k : Nat) : QI Tryz.prog 52 (Q0.sem k) :=
 QG (C := Q0.ctx k) (Q0.gok k) Tryz.mix (c := Func.code Tryz.f52) (ann := Q0.ann k) (tin := Q0.tin) (tout := Q0.tout) (fun x K => Q0.c k x.1 x.2.1 K) Tryz.func52 (by kernel_rfl) (by kernel_rfl) (Q1.seq Q1.nil (Q1.seq (Q1.loop (by kernel_rfl) (Q0.p0.ok k)) (Q1.seq Q1.nil (Q1.seq Q1.nil (Q1.seq Q1.nil (Q1.seq Q1.nil (Q1.seq Q1.nil (Q1.seq (Q1.seq Q1.nil (Q1.block (Q1.loop (by kernel_rfl) (Q0.l1.ok k)))) (Q1.seq Q1.nil (Q1.seq (Q1.seq Q1.nil (Q1.block (Q1.loop (by kernel_rfl) (Q0.l4.ok k)))) Q1.nil)))))))))) (Q0.body k)
end Go.Am
