/- A part of a proof: a machine of abstract values that tells what functions of the program compute, and the plain facts on them. -/
import Derived.Test.YtmcflhodbmgikaaAm6
import Derived.Test.YtmcflhodbmgikaaRows
import Derived.KernelRfl
import Derived.Test.YtmcflhodbmgikaaProg
import Derived.Test.YtmcflhodbmgikaaAm8
set_option linter.unusedVariables false
set_option linter.unusedSimpArgs false
set_option linter.unnecessarySimpa false
set_option linter.unusedSectionVars false
namespace Go.Am
abbrev QcA : Type := (ByteArray × Unit)
abbrev Qcz : Type := (Int × (Int × Unit))
abbrev Qcy : Type := ((Unit × (Unit × Unit)) × Unit)
abbrev Qcx : Type := (ByteArray ×  Qcz )
abbrev Qcw : Type := ((List Int) × (ByteArray × (Int × Unit)))
abbrev Qcv : Type := (Int × (Int × ((List Int) × (Int × Unit))))
abbrev Qcu : Ty := (.pair (.int .u64) (.pair (.int .u64) .unit))
abbrev Qct : Type := (Int ×  Qcx  × Unit)
abbrev Qcs : Type := ( Qcy  × (List Int) × Unit)
abbrev Qcr : Ty := (.pair .str (.pair (.int .i64) (.pair (.int .i64) .unit)))
abbrev Qcq : Ty := (.pair (.arr 4 (.int .u64)) (.pair .str (.pair (.int .i64) .unit)))
abbrev Qcp : Ty := (.pair (.int .u32) (.pair (.int .u64) (.pair (.arr 16 (.int .u8)) (.pair (.int .u16) .unit))))
end Go.Am
namespace Go.Proofs.Ytmcflhodbmgikaa
open Go.RowKit Go.Am
theorem Try.own : ownKnob Try.prog.godebug = none := by kernel_rfl
theorem Try.laidOut : laidOutB Try.prog = true := by kernel_rfl
end Go.Proofs.Ytmcflhodbmgikaa
namespace Go.Am
open Go
theorem Qc2 {p : Int → Prop} {l : List Int} (h : ∀ i, i < l.length → p (l.getD i 0)) : ∀ x ∈ l, p x := by
 intro x hx
 obtain ⟨i, hi, rfl⟩ := List.getElem_of_mem hx
 have := h i hi
 rw [List.getD_eq_getElem?_getD] at this
 simpa [hi] using this
theorem Qbc : reachBytes = 140737488351232 := rfl
end Go.Am
namespace Go.Am
open Go Go.Proofs
theorem _root_.Go.Proofs.Try.mix : Try.prog.follows .mixedOrders = true := by kernel_rfl
end Go.Am
namespace Go.Am
open Go Go.Proofs Go.Shelf
set_option maxRecDepth 100000
def Bld.fs : List (Nat × Nat) := [(240, 51), (276, 55), (169, 46), (105, 58), (99, 64), (165, 65), (166, 48), (170, 66), (206, 72), (212, 63), (241, 73), (263, 70), (264, 71), (277, 76)]
def Bld.ts : List (Nat × Nat) := [(72, 94), (70, 91), (164, 114), (37, 92), (127, 109), (20, 20), (46, 108), (51, 22), (53, 23), (75, 105), (76, 106), (109, 125), (146, 134), (148, 136), (80, 51)]
def Bld.look : List (Nat × Nat) → Nat → Nat
 | [], n => n
 | (a, b) :: l, n => if n = a then b else Bld.look l n
def Bld.ren : Ren := ⟨Bld.look Bld.fs, Bld.look Bld.ts, fun n => n⟩
theorem Bld.lays240 : Lays.n240 Try.prog Bld.ren := by
 constructor <;> first | kernel_rfl | (intro w; kernel_rfl)
theorem Bld.lays169 : Lays.n169 Try.prog Bld.ren := by
 constructor <;> first | kernel_rfl | (intro w; kernel_rfl)
theorem Bld.lays105 : Lays.n105 Try.prog Bld.ren := by
 constructor <;> first | kernel_rfl | (intro w; kernel_rfl)
theorem Bld.x72 : Builder.X72 Try.prog Bld.ren where
 sizeBuilder := by kernel_rfl
 liesBuilder := by kernel_rfl
theorem Bld.extra : Builder.Extra Try.prog Bld.ren where
 sizeBuilder := by kernel_rfl
 liesBuilder := by kernel_rfl
 t5 := by kernel_rfl
 a5 := fun w => by kernel_rfl
 z5 := fun w => by kernel_rfl
 v5 := fun w => by kernel_rfl
 infoByte := by kernel_rfl
 cellsByte := by kernel_rfl
 sizeByte := by kernel_rfl
 neB5 := by decide
theorem Bld.copyCheck : Qo Try.prog 51 (QaF 96 2) := Q7t Bld.lays240 Bld.x72 (by kernel_rfl) (by constructor <;> kernel_rfl)
theorem Bld.string : Qo Try.prog 46 Q8K := Q9X Bld.lays169 Bld.extra rfl (by constructor <;> kernel_rfl)
def strings_Repeat (k : Nat) (s : ByteArray) (c : Int) : Option QcA := repJ s c
def strings_Repeat.tin : List Ty := [.str, (.int .i64)]
def strings_Repeat.tout : List Ty := [.str]
def strings_Repeat.sem (k : Nat) : QA := QP strings_Repeat.tin strings_Repeat.tout fun x => strings_Repeat k x.1 x.2.1
theorem strings_Repeat.sem_ok (k : Nat) : Qo Try.prog 58 (strings_Repeat.sem k) :=
 Qaa Bld.lays105 Bld.extra (by constructor <;> kernel_rfl)
end Go.Am
namespace Go.Am
open Go Go.Proofs Go.Shelf
set_option maxRecDepth 100000
def Cln.fs : List (Nat × Nat) := [(316, 62)]
def Cln.ts : List (Nat × Nat) := [(37, 92), (127, 109)]
def Cln.ren : Ren := ⟨Bld.look Cln.fs, Bld.look Cln.ts, fun n => n⟩
theorem Cln.lays316 : LaysM.n316 Try.prog Cln.ren := by
 constructor <;> first | kernel_rfl | (intro w; kernel_rfl) | (constructor <;> first | kernel_rfl | (intro w; kernel_rfl))
def stringslite_Clone (k : Nat) (s : ByteArray) : Option QcA := Q7L s
def stringslite_Clone.tin : List Ty := [.str]
def stringslite_Clone.tout : List Ty := [.str]
def stringslite_Clone.sem (k : Nat) : QA := QP stringslite_Clone.tin stringslite_Clone.tout fun x => stringslite_Clone k x.1
theorem stringslite_Clone.sem_ok (k : Nat) : Qo Try.prog 62 (stringslite_Clone.sem k) :=
 QaE Cln.lays316 (by constructor <;> kernel_rfl)
end Go.Am
namespace Go.Am
open Go Go.Proofs
set_option maxRecDepth 100000
abbrev Q03.τ : Type := (Qcw × Unit)
def Q03.c (k : Nat) {ρ : Type} (k_0 : Qcz) (K : Q03.τ → Option ρ) : Option ρ :=
 let v0 : Int := k_0.1
 let v1 : Int := (Q0z BinOp.xor IntKind.u64 v0 (8317987319222330741 : Int))
 let v2 : Int := k_0.2.1
 let v3 : Int := (Q0z BinOp.xor IntKind.u64 v2 (7237128888997146477 : Int))
 let v4 : Int := k_0.1
 let v5 : Int := (Q0z BinOp.xor IntKind.u64 v4 (7816392313619706465 : Int))
 let v6 : Int := k_0.2.1
 let v7 : Int := (Q0z BinOp.xor IntKind.u64 v6 (8387220255154660723 : Int))
 let v8 : (List Int) := (List.set (List.set (List.set (List.set (List.replicate 4 (0 : Int)) 0 v1) 1 v3) 2 v5) 3 v7)
 K ((v8, ((⟨(List.toArray [])⟩ : ByteArray), ((0 : Int), ()))), ())
def Q03 (k : Nat) (k_0 : Qcz) : Option Q03.τ := Q03.c k k_0 some
def Q03.T : Q0b := ⟨[.dat Qcu], [], 0⟩
def Q03.os : List Out := [⟨.ret, [.auto 0], ⟨[.ptr 0 []], [.dat Qcq]⟩⟩]
def Q03.sem (k : Nat) : QA := Q0k Q03.T Q03.os fun x => Q03 k x.1
noncomputable def Q03.ctx (k : Nat) : Ctx := ⟨Try.prog, gam []⟩
theorem Q03.gok (k : Nat) : ∀ f, Qo Try.prog f ((Q03.ctx k).Γ f) := QO
def Q03.ann (k : Nat) : Ann := .nil
theorem Q03.body (k : Nat) : Q0r (Q03.ctx k) Try.f52 (Func.code Try.f52) (Q03.ann k) Q03.T Q03.os (fun x K => Q03.c k x.1 K) := by
 intro ρ x K; kernel_rfl
theorem Q03.sem_ok (k : Nat) : Qo Try.prog 52 (Q03.sem k) :=
 QU (C := Q03.ctx k) (Q03.gok k) Try.mix (c := Func.code Try.f52) (ann := Q03.ann k) (T := Q03.T) (os := Q03.os) (fun x K => Q03.c k x.1 K) Try.func52 (by kernel_rfl) (by kernel_rfl) Qc.nil (Q03.body k) (by kernel_rfl) (by kernel_rfl) (by kernel_rfl)
abbrev QE.τ : Type := (Qcx × Unit)
def QE.c (k : Nat) {ρ : Type} (s : ByteArray) (K : QE.τ → Option ρ) : Option ρ :=
 K ((s, ((0 : Int), ((0 : Int), ()))), ())
def QE (k : Nat) (s : ByteArray) : Option QE.τ := QE.c k s some
def QE.T : Q0b := ⟨[.dat .str], [], 0⟩
def QE.os : List Out := [⟨.ret, [.auto 0], ⟨[.ptr 0 []], [.dat Qcr]⟩⟩]
def QE.sem (k : Nat) : QA := Q0k QE.T QE.os fun x => QE k x.1
noncomputable def QE.ctx (k : Nat) : Ctx := ⟨Try.prog, gam []⟩
theorem QE.gok (k : Nat) : ∀ f, Qo Try.prog f ((QE.ctx k).Γ f) := QO
def QE.ann (k : Nat) : Ann := .nil
theorem QE.body (k : Nat) : Q0r (QE.ctx k) Try.f60 (Func.code Try.f60) (QE.ann k) QE.T QE.os (fun x K => QE.c k x.1 K) := by
 intro ρ x K; kernel_rfl
theorem QE.sem_ok (k : Nat) : Qo Try.prog 60 (QE.sem k) :=
 QU (C := QE.ctx k) (QE.gok k) Try.mix (c := Func.code Try.f60) (ann := QE.ann k) (T := QE.T) (os := QE.os) (fun x K => QE.c k x.1 K) Try.func60 (by kernel_rfl) (by kernel_rfl) Qc.nil (QE.body k) (by kernel_rfl) (by kernel_rfl) (by kernel_rfl)
abbrev Qy.τ : Type := Qct 
def Qy.c (k : Nat) {ρ : Type} (b0 : Qcx) (K : Qy.τ → Option ρ) : Option ρ :=
 let v0 : Int := b0.2.2.1
 K (v0, ((b0.1, (b0.2.1, (b0.2.2.1, ()))), ()))
def Qy (k : Nat) (b0 : Qcx) : Option Qy.τ := Qy.c k b0 some
def Qy.T : Q0b := ⟨[.ptr 0 []], [.dat Qcr], 1⟩
def Qy.os : List Out := [⟨.ret, [.freeze (.slot 0), .auto 1], ⟨[.dat (.int .i64)], [.dat Qcr]⟩⟩]
def Qy.sem (k : Nat) : QA := Q0k Qy.T Qy.os fun x => Qy k x.1
noncomputable def Qy.ctx (k : Nat) : Ctx := ⟨Try.prog, gam []⟩
theorem Qy.gok (k : Nat) : ∀ f, Qo Try.prog f ((Qy.ctx k).Γ f) := QO
def Qy.ann (k : Nat) : Ann := .nil
theorem Qy.body (k : Nat) : Q0r (Qy.ctx k) Try.f74 (Func.code Try.f74) (Qy.ann k) Qy.T Qy.os (fun x K => Qy.c k x.1 K) := by
 intro ρ x K; kernel_rfl
theorem Qy.sem_ok (k : Nat) : Qo Try.prog 74 (Qy.sem k) :=
 QU (C := Qy.ctx k) (Qy.gok k) Try.mix (c := Func.code Try.f74) (ann := Qy.ann k) (T := Qy.T) (os := Qy.os) (fun x K => Qy.c k x.1 K) Try.func74 (by kernel_rfl) (by kernel_rfl) Qc.nil (Qy.body k) (by kernel_rfl) (by kernel_rfl) (by kernel_rfl)
abbrev Qu.τ : Type := Qct 
def Qu.c (k : Nat) {ρ : Type} (b0 : Qcx) (K : Qu.τ → Option ρ) : Option ρ :=
 let v0 : ByteArray := b0.1
 let v1 : Int := b0.2.1
 let v2 : Int := (IntKind.wrap IntKind.i64 ((((ByteArray.size v0) : Nat) : Int) - v1))
 K (v2, ((b0.1, (b0.2.1, (b0.2.2.1, ()))), ()))
def Qu (k : Nat) (b0 : Qcx) : Option Qu.τ := Qu.c k b0 some
def Qu.T : Q0b := ⟨[.ptr 0 []], [.dat Qcr], 1⟩
def Qu.os : List Out := [⟨.ret, [.freeze (.slot 0), .auto 1], ⟨[.dat (.int .i64)], [.dat Qcr]⟩⟩]
def Qu.sem (k : Nat) : QA := Q0k Qu.T Qu.os fun x => Qu k x.1
noncomputable def Qu.ctx (k : Nat) : Ctx := ⟨Try.prog, gam []⟩
theorem Qu.gok (k : Nat) : ∀ f, Qo Try.prog f ((Qu.ctx k).Γ f) := QO
def Qu.ann (k : Nat) : Ann := .nil
theorem Qu.body (k : Nat) : Q0r (Qu.ctx k) Try.f75 (Func.code Try.f75) (Qu.ann k) Qu.T Qu.os (fun x K => Qu.c k x.1 K) := by
 intro ρ x K; kernel_rfl
theorem Qu.sem_ok (k : Nat) : Qo Try.prog 75 (Qu.sem k) :=
 QU (C := Qu.ctx k) (Qu.gok k) Try.mix (c := Func.code Try.f75) (ann := Qu.ann k) (T := Qu.T) (os := Qu.os) (fun x K => Qu.c k x.1 K) Try.func75 (by kernel_rfl) (by kernel_rfl) Qc.nil (Qu.body k) (by kernel_rfl) (by kernel_rfl) (by kernel_rfl)
abbrev Qr.τ : Type := (ByteArray × Qcx × Unit)
def Qr.c (k : Nat) {ρ : Type} (n : Int) (b0 : Qcx) (K : Qr.τ → Option ρ) : Option ρ :=
 (Qy k (b0.1, (b0.2.1, (b0.2.2.1, ())))).bind fun t0 => bif (t0.1 != (0 : Int)) then (K ((⟨(List.toArray [])⟩ : ByteArray), ((t0.2.1.1, (t0.2.1.2.1, (t0.2.1.2.2.1, ()))), ()))) else (bif (decide (n < (0 : Int))) then (K ((⟨(List.toArray [])⟩ : ByteArray), ((t0.2.1.1, (t0.2.1.2.1, ((1 : Int), ()))), ()))) else ((Qu k (t0.2.1.1, (t0.2.1.2.1, (t0.2.1.2.2.1, ())))).bind fun t1 => bif (decide (n > t1.1)) then (K ((⟨(List.toArray [])⟩ : ByteArray), ((t1.2.1.1, (t1.2.1.2.1, ((4 : Int), ()))), ()))) else (let v2 : Int := t1.2.1.2.1
 let v3 : Int := (IntKind.wrap IntKind.i64 (v2 + n))
 let v4 : ByteArray := t1.2.1.1
 let v5 : Int := (IntKind.wrap IntKind.i64 (v3 - n))
 bif (decide (((0 : Int) ≤ v5) ∧ ((v5 ≤ v3) ∧ (v3 ≤ (((ByteArray.size v4) : Nat) : Int))))) then (K ((ByteArray.extract v4 (Int.toNat v5) (Int.toNat v3)), ((t1.2.1.1, (v3, (t1.2.1.2.2.1, ()))), ()))) else (none))))
def Qr (k : Nat) (n : Int) (b0 : Qcx) : Option Qr.τ := Qr.c k n b0 some
def Qr.T : Q0b := ⟨[.ptr 0 [], .dat (.int .i64)], [.dat Qcr], 1⟩
def Qr.os : List Out := [⟨.ret, [.freeze (.slot 0), .auto 1], ⟨[.dat .str], [.dat Qcr]⟩⟩]
def Qr.sem (k : Nat) : QA := Q0k Qr.T Qr.os fun x => Qr k x.1 x.2.1
noncomputable def Qr.ctx (k : Nat) : Ctx := ⟨Try.prog, gam [(74, (Qy.sem k)), (75, (Qu.sem k))]⟩
theorem Qr.gok (k : Nat) : ∀ f, Qo Try.prog f ((Qr.ctx k).Γ f) := (QB (Qy.sem_ok k) (QB (Qu.sem_ok k) QO))
def Qr.ann (k : Nat) : Ann := .nil
theorem Qr.body (k : Nat) : Q0r (Qr.ctx k) Try.f69 (Func.code Try.f69) (Qr.ann k) Qr.T Qr.os (fun x K => Qr.c k x.1 x.2.1 K) := by
 intro ρ x K; kernel_rfl
theorem Qr.sem_ok (k : Nat) : Qo Try.prog 69 (Qr.sem k) :=
 QU (C := Qr.ctx k) (Qr.gok k) Try.mix (c := Func.code Try.f69) (ann := Qr.ann k) (T := Qr.T) (os := Qr.os) (fun x K => Qr.c k x.1 x.2.1 K) Try.func69 (by kernel_rfl) (by kernel_rfl) Qc.nil (Qr.body k) (by kernel_rfl) (by kernel_rfl) (by kernel_rfl)
abbrev QF.l0.σ : Type := ByteArray × Int × Int × Int × Unit
abbrev QF.l0.τ : Type := (Int × Unit)
def QF.l0.r (k : Nat) {ρ : Type} (x : QF.l0.σ) (kn : QF.l0.σ → Option ρ) (ke : QF.l0.τ → Option ρ) : Option ρ :=
 bif (decide (x.2.2.2.1 < x.2.2.1)) then (bif (decide (((0 : Int) ≤ x.2.2.2.1) ∧ (x.2.2.2.1 < (((ByteArray.size x.1) : Nat) : Int)))) then (let v0 : Int := (Q9m x.1 (Int.toNat x.2.2.2.1))
 let v1 : Int := (IntKind.wrap IntKind.i64 ((8 : Int) * x.2.2.2.1))
 bif (decide ((0 : Int) ≤ v1)) then (let v2 : Int := (Q0z BinOp.or IntKind.u64 x.2.1 (Q8i IntKind.u64 (IntKind.wrap IntKind.u64 v0) v1))
 let v3 : Int := (IntKind.wrap IntKind.i64 (x.2.2.2.1 + (1 : Int)))
 kn (x.1, (v2, (x.2.2.1, (v3, ()))))) else (none)) else (none)) else (ke (x.2.1, ()))
def QF.l0 (k : Nat) : Nat → QF.l0.σ → Option QF.l0.τ := Q0W (QF.l0.r k)
def QF.l0.T : StT := ⟨.dat .str :: us 2 ++ .dat (.int .u64) :: us 2 ++ .dat (.int .i64) :: .dat (.int .i64) :: us 13, []⟩
def QF.l0.os : List Out := [⟨(.exit 0), [.mask [3], .auto 0], ⟨us 3 ++ .dat (.int .u64) :: us 17, []⟩⟩]
def QF.c (k : Nat) {ρ : Type} (s : ByteArray) (K : Int × Unit → Option ρ) : Option ρ :=
 (QF.l0 k k (s, ((0 : Int), ((((ByteArray.size s) : Nat) : Int), ((0 : Int), ()))))).bind fun t4 => K (t4.1, ())
def QF (k : Nat) (s : ByteArray) : Option (Int × Unit) := QF.c k s some
def QF.tin : List Ty := [.str]
def QF.tout : List Ty := [(.int .u64)]
def QF.sem (k : Nat) : QA := QP QF.tin QF.tout fun x => QF k x.1
noncomputable def QF.ctx (k : Nat) : Ctx := ⟨Try.prog, gam []⟩
theorem QF.gok (k : Nat) : ∀ f, Qo Try.prog f ((QF.ctx k).Γ f) := QO
theorem QF.l0.round (k : Nat) : Q1b (QF.ctx k) (Q06 (Func.code Try.f68) [1, 1, 0, 1, 0, 0]) (.nil) QF.l0.T [.mask [0, 3, 6, 7], .auto 0] QF.l0.os (QF.l0.r k) := by
 intro ρ x kn ke; kernel_rfl
theorem QF.l0.ok (k : Nat) : StOK 0 Try.prog (.loop (Q06 (Func.code Try.f68) [1, 1, 0, 1, 0, 0])) (Q02 QF.l0.T QF.l0.os (QF.l0 k k)) :=
 Q1E (C := QF.ctx k) (QF.gok k) Try.mix Qc.nil (by kernel_rfl) (by kernel_rfl) (by kernel_rfl) (QF.l0.round k) k
def QF.ann (k : Nat) : Ann := .node [] none (.nil) (.node [] none (.nil) (.node [] none (.node [] none (.nil) (.node [] none (.node [] (some (Q02 QF.l0.T QF.l0.os (QF.l0 k k))) .nil .nil) (.nil))) (.nil)))
theorem QF.body (k : Nat) : Q15 (QF.ctx k) Try.f68 (Func.code Try.f68) (QF.ann k) QF.tin QF.tout (fun x K => QF.c k x.1 K) := by
 intro ρ x K; kernel_rfl
theorem QF.sem_ok (k : Nat) : Qo Try.prog 68 (QF.sem k) :=
 Q07 (C := QF.ctx k) (QF.gok k) Try.mix (c := Func.code Try.f68) (ann := QF.ann k) (tin := QF.tin) (tout := QF.tout) (fun x K => QF.c k x.1 K) Try.func68 (by kernel_rfl) (by kernel_rfl) (Qc.seq Qc.nil (Qc.seq Qc.nil (Qc.seq (Qc.seq Qc.nil (Qc.block (Qc.loop (by kernel_rfl) (QF.l0.ok k)))) Qc.nil))) (QF.body k)
abbrev Qx.τ : Type := Qct 
def Qx.c (k : Nat) {ρ : Type} (b0 : Qcx) (K : Qx.τ → Option ρ) : Option ρ :=
 (Qr k (8 : Int) (b0.1, (b0.2.1, (b0.2.2.1, ())))).bind fun t0 => (QF k t0.1).bind fun t1 => K (t1.1, ((t0.2.1.1, (t0.2.1.2.1, (t0.2.1.2.2.1, ()))), ()))
def Qx (k : Nat) (b0 : Qcx) : Option Qx.τ := Qx.c k b0 some
def Qx.T : Q0b := ⟨[.ptr 0 []], [.dat Qcr], 1⟩
def Qx.os : List Out := [⟨.ret, [.freeze (.slot 0), .auto 1], ⟨[.dat (.int .u64)], [.dat Qcr]⟩⟩]
def Qx.sem (k : Nat) : QA := Q0k Qx.T Qx.os fun x => Qx k x.1
noncomputable def Qx.ctx (k : Nat) : Ctx := ⟨Try.prog, gam [(69, (Qr.sem k)), (68, (QF.sem k))]⟩
theorem Qx.gok (k : Nat) : ∀ f, Qo Try.prog f ((Qx.ctx k).Γ f) := (QB (Qr.sem_ok k) (QB (QF.sem_ok k) QO))
def Qx.ann (k : Nat) : Ann := .nil
theorem Qx.body (k : Nat) : Q0r (Qx.ctx k) Try.f61 (Func.code Try.f61) (Qx.ann k) Qx.T Qx.os (fun x K => Qx.c k x.1 K) := by
 intro ρ x K; kernel_rfl
theorem Qx.sem_ok (k : Nat) : Qo Try.prog 61 (Qx.sem k) :=
 QU (C := Qx.ctx k) (Qx.gok k) Try.mix (c := Func.code Try.f61) (ann := Qx.ann k) (T := Qx.T) (os := Qx.os) (fun x K => Qx.c k x.1 K) Try.func61 (by kernel_rfl) (by kernel_rfl) Qc.nil (Qx.body k) (by kernel_rfl) (by kernel_rfl) (by kernel_rfl)
def Qa.c (k : Nat) {ρ : Type} (x_0 : Int) (k_1 : Int) (K : Int × Unit → Option ρ) : Option ρ :=
 let v0 : Int := (Q0z BinOp.and IntKind.u64 (IntKind.wrap IntKind.u64 k_1) (63 : Int))
 bif (decide ((0 : Int) ≤ v0)) then (let v1 : Int := (IntKind.wrap IntKind.u64 ((64 : Int) - v0))
 bif (decide ((0 : Int) ≤ v1)) then (let v2 : Int := (Q0z BinOp.or IntKind.u64 (Q8i IntKind.u64 x_0 v0) (Q8G IntKind.u64 x_0 v1))
 K (v2, ())) else (none)) else (none)
def Qa (k : Nat) (x_0 : Int) (k_1 : Int) : Option (Int × Unit) := Qa.c k x_0 k_1 some
def Qa.tin : List Ty := [(.int .u64), (.int .i64)]
def Qa.tout : List Ty := [(.int .u64)]
def Qa.sem (k : Nat) : QA := QP Qa.tin Qa.tout fun x => Qa k x.1 x.2.1
noncomputable def Qa.ctx (k : Nat) : Ctx := ⟨Try.prog, gam []⟩
theorem Qa.gok (k : Nat) : ∀ f, Qo Try.prog f ((Qa.ctx k).Γ f) := QO
def Qa.ann (k : Nat) : Ann := .nil
theorem Qa.body (k : Nat) : Q15 (Qa.ctx k) Try.f67 (Func.code Try.f67) (Qa.ann k) Qa.tin Qa.tout (fun x K => Qa.c k x.1 x.2.1 K) := by
 intro ρ x K; kernel_rfl
theorem Qa.sem_ok (k : Nat) : Qo Try.prog 67 (Qa.sem k) :=
 Q07 (C := Qa.ctx k) (Qa.gok k) Try.mix (c := Func.code Try.f67) (ann := Qa.ann k) (tin := Qa.tin) (tout := Qa.tout) (fun x K => Qa.c k x.1 x.2.1 K) Try.func67 (by kernel_rfl) (by kernel_rfl) Qc.nil (Qa.body k)
def QL.c (k : Nat) {ρ : Type} (v : (List Int)) (K : (List Int) × Unit → Option ρ) : Option ρ :=
 let v0 : Int := (List.getD v 0 (0 : Int))
 let v1 : Int := (List.getD v 1 (0 : Int))
 let v2 : Int := (IntKind.wrap IntKind.u64 (v0 + v1))
 let v3 : Int := (List.getD (List.set v 0 v2) 1 (0 : Int))
 (Qa k v3 (13 : Int)).bind fun t4 => let v5 : Int := (List.getD (List.set v 0 v2) 0 (0 : Int))
 let v6 : Int := (Q0z BinOp.xor IntKind.u64 t4.1 v5)
 let v7 : Int := (List.getD (List.set (List.set v 0 v2) 1 v6) 0 (0 : Int))
 (Qa k v7 (32 : Int)).bind fun t8 => let v9 : Int := (List.getD (List.set (List.set (List.set v 0 v2) 1 v6) 0 t8.1) 2 (0 : Int))
 let v10 : Int := (List.getD (List.set (List.set (List.set v 0 v2) 1 v6) 0 t8.1) 3 (0 : Int))
 let v11 : Int := (IntKind.wrap IntKind.u64 (v9 + v10))
 let v12 : Int := (List.getD (List.set (List.set (List.set (List.set v 0 v2) 1 v6) 0 t8.1) 2 v11) 3 (0 : Int))
 (Qa k v12 (16 : Int)).bind fun t13 => let v14 : Int := (List.getD (List.set (List.set (List.set (List.set v 0 v2) 1 v6) 0 t8.1) 2 v11) 2 (0 : Int))
 let v15 : Int := (Q0z BinOp.xor IntKind.u64 t13.1 v14)
 let v16 : Int := (List.getD (List.set (List.set (List.set (List.set (List.set v 0 v2) 1 v6) 0 t8.1) 2 v11) 3 v15) 0 (0 : Int))
 let v17 : Int := (List.getD (List.set (List.set (List.set (List.set (List.set v 0 v2) 1 v6) 0 t8.1) 2 v11) 3 v15) 3 (0 : Int))
 let v18 : Int := (IntKind.wrap IntKind.u64 (v16 + v17))
 let v19 : Int := (List.getD (List.set (List.set (List.set (List.set (List.set (List.set v 0 v2) 1 v6) 0 t8.1) 2 v11) 3 v15) 0 v18) 3 (0 : Int))
 (Qa k v19 (21 : Int)).bind fun t20 => let v21 : Int := (List.getD (List.set (List.set (List.set (List.set (List.set (List.set v 0 v2) 1 v6) 0 t8.1) 2 v11) 3 v15) 0 v18) 0 (0 : Int))
 let v22 : Int := (Q0z BinOp.xor IntKind.u64 t20.1 v21)
 let v23 : Int := (List.getD (List.set (List.set (List.set (List.set (List.set (List.set (List.set v 0 v2) 1 v6) 0 t8.1) 2 v11) 3 v15) 0 v18) 3 v22) 2 (0 : Int))
 let v24 : Int := (List.getD (List.set (List.set (List.set (List.set (List.set (List.set (List.set v 0 v2) 1 v6) 0 t8.1) 2 v11) 3 v15) 0 v18) 3 v22) 1 (0 : Int))
 let v25 : Int := (IntKind.wrap IntKind.u64 (v23 + v24))
 let v26 : Int := (List.getD (List.set (List.set (List.set (List.set (List.set (List.set (List.set (List.set v 0 v2) 1 v6) 0 t8.1) 2 v11) 3 v15) 0 v18) 3 v22) 2 v25) 1 (0 : Int))
 (Qa k v26 (17 : Int)).bind fun t27 => let v28 : Int := (List.getD (List.set (List.set (List.set (List.set (List.set (List.set (List.set (List.set v 0 v2) 1 v6) 0 t8.1) 2 v11) 3 v15) 0 v18) 3 v22) 2 v25) 2 (0 : Int))
 let v29 : Int := (Q0z BinOp.xor IntKind.u64 t27.1 v28)
 let v30 : Int := (List.getD (List.set (List.set (List.set (List.set (List.set (List.set (List.set (List.set (List.set v 0 v2) 1 v6) 0 t8.1) 2 v11) 3 v15) 0 v18) 3 v22) 2 v25) 1 v29) 2 (0 : Int))
 (Qa k v30 (32 : Int)).bind fun t31 => let v32 : (List Int) := (List.set (List.set (List.set (List.set (List.set (List.set (List.set (List.set (List.set (List.set v 0 v2) 1 v6) 0 t8.1) 2 v11) 3 v15) 0 v18) 3 v22) 2 v25) 1 v29) 2 t31.1)
 K (v32, ())
def QL (k : Nat) (v : (List Int)) : Option ((List Int) × Unit) := QL.c k v some
def QL.tin : List Ty := [(.arr 4 (.int .u64))]
def QL.tout : List Ty := [(.arr 4 (.int .u64))]
def QL.sem (k : Nat) : QA := QP QL.tin QL.tout fun x => QL k x.1
noncomputable def QL.ctx (k : Nat) : Ctx := ⟨Try.prog, gam [(67, (Qa.sem k))]⟩
theorem QL.gok (k : Nat) : ∀ f, Qo Try.prog f ((QL.ctx k).Γ f) := (QB (Qa.sem_ok k) QO)
def QL.ann (k : Nat) : Ann := .nil
theorem QL.body (k : Nat) : Q15 (QL.ctx k) Try.f59 (Func.code Try.f59) (QL.ann k) QL.tin QL.tout (fun x K => QL.c k x.1 K) := by
 intro ρ x K; kernel_rfl
theorem QL.sem_ok (k : Nat) : Qo Try.prog 59 (QL.sem k) :=
 Q07 (C := QL.ctx k) (QL.gok k) Try.mix (c := Func.code Try.f59) (ann := QL.ann k) (tin := QL.tin) (tout := QL.tout) (fun x K => QL.c k x.1 K) Try.func59 (by kernel_rfl) (by kernel_rfl) Qc.nil (QL.body k)
def QR.c (k : Nat) {ρ : Type} (v : (List Int)) (s : ByteArray) (K : (List Int) × Unit → Option ρ) : Option ρ :=
 (QE k s).bind fun t0 => (Qx k (t0.1.1, (t0.1.2.1, (t0.1.2.2.1, ())))).bind fun t1 => let v2 : Int := (List.getD v 3 (0 : Int))
 let v3 : Int := (Q0z BinOp.xor IntKind.u64 v2 t1.1)
 (QL k (List.set v 3 v3)).bind fun t4 => (QL k t4.1).bind fun t5 => let v6 : Int := (List.getD t5.1 0 (0 : Int))
 let v7 : Int := (Q0z BinOp.xor IntKind.u64 v6 t1.1)
 let v8 : (List Int) := (List.set t5.1 0 v7)
 K (v8, ())
def QR (k : Nat) (v : (List Int)) (s : ByteArray) : Option ((List Int) × Unit) := QR.c k v s some
def QR.tin : List Ty := [(.arr 4 (.int .u64)), .str]
def QR.tout : List Ty := [(.arr 4 (.int .u64))]
def QR.sem (k : Nat) : QA := QP QR.tin QR.tout fun x => QR k x.1 x.2.1
noncomputable def QR.ctx (k : Nat) : Ctx := ⟨Try.prog, gam [(60, (QE.sem k)), (61, (Qx.sem k)), (59, (QL.sem k))]⟩
theorem QR.gok (k : Nat) : ∀ f, Qo Try.prog f ((QR.ctx k).Γ f) := (QB (QE.sem_ok k) (QB (Qx.sem_ok k) (QB (QL.sem_ok k) QO)))
def QR.ann (k : Nat) : Ann := .nil
theorem QR.body (k : Nat) : Q15 (QR.ctx k) Try.f56 (Func.code Try.f56) (QR.ann k) QR.tin QR.tout (fun x K => QR.c k x.1 x.2.1 K) := by
 intro ρ x K; kernel_rfl
theorem QR.sem_ok (k : Nat) : Qo Try.prog 56 (QR.sem k) :=
 Q07 (C := QR.ctx k) (QR.gok k) Try.mix (c := Func.code Try.f56) (ann := QR.ann k) (tin := QR.tin) (tout := QR.tout) (fun x K => QR.c k x.1 x.2.1 K) Try.func56 (by kernel_rfl) (by kernel_rfl) Qc.nil (QR.body k)
def QG.c (k : Nat) {ρ : Type} (s : ByteArray) (K : ByteArray × Unit → Option ρ) : Option ρ :=
 (stringslite_Clone k s).bind fun t0 => K (t0.1, ())
def QG (k : Nat) (s : ByteArray) : Option QcA := QG.c k s some
def QG.tin : List Ty := [.str]
def QG.tout : List Ty := [.str]
def QG.sem (k : Nat) : QA := QP QG.tin QG.tout fun x => QG k x.1
noncomputable def QG.ctx (k : Nat) : Ctx := ⟨Try.prog, gam [(62, (stringslite_Clone.sem k))]⟩
theorem QG.gok (k : Nat) : ∀ f, Qo Try.prog f ((QG.ctx k).Γ f) := (QB (stringslite_Clone.sem_ok k) QO)
def QG.ann (k : Nat) : Ann := .nil
theorem QG.body (k : Nat) : Q15 (QG.ctx k) Try.f57 (Func.code Try.f57) (QG.ann k) QG.tin QG.tout (fun x K => QG.c k x.1 K) := by
 intro ρ x K; kernel_rfl
theorem QG.sem_ok (k : Nat) : Qo Try.prog 57 (QG.sem k) :=
 Q07 (C := QG.ctx k) (QG.gok k) Try.mix (c := Func.code Try.f57) (ann := QG.ann k) (tin := QG.tin) (tout := QG.tout) (fun x K => QG.c k x.1 K) Try.func57 (by kernel_rfl) (by kernel_rfl) Qc.nil (QG.body k)
abbrev Qb.l0.σ : Type := ByteArray × Qcw × Unit
abbrev Qb.l0.τ : Type := (ByteArray × Qcw × Unit)
def Qb.l0.r (k : Nat) {ρ : Type} (x : Qb.l0.σ) (kn : Qb.l0.σ → Option ρ) (ke : Qb.l0.τ → Option ρ) : Option ρ :=
 let v4 : Int := (((ByteArray.size x.1) : Nat) : Int)
 bif (decide (v4 ≥ (8 : Int))) then (let v5 : (List Int) := x.2.1.1
 bif (decide (((0 : Int) ≤ (0 : Int)) ∧ (((0 : Int) ≤ (8 : Int)) ∧ ((8 : Int) ≤ (((ByteArray.size x.1) : Nat) : Int))))) then (let v6 : ByteArray := (ByteArray.extract x.1 0 8)
 (QR k v5 v6).bind fun t7 => bif (decide (((0 : Int) ≤ (8 : Int)) ∧ (((8 : Int) ≤ (((ByteArray.size x.1) : Nat) : Int)) ∧ ((((ByteArray.size x.1) : Nat) : Int) ≤ (((ByteArray.size x.1) : Nat) : Int))))) then (let v8 : ByteArray := (ByteArray.extract x.1 8 (Int.toNat (((ByteArray.size x.1) : Nat) : Int)))
 kn (v8, ((t7.1, (x.2.1.2.1, (x.2.1.2.2.1, ()))), ()))) else (none)) else (none)) else (ke (x.1, ((x.2.1.1, (x.2.1.2.1, (x.2.1.2.2.1, ()))), ())))
def Qb.l0 (k : Nat) : Nat → Qb.l0.σ → Option Qb.l0.τ := Q0W (Qb.l0.r k)
def Qb.l0.T : StT := ⟨.ptr 0 [] :: .dat .str :: us 39, [.dat Qcq]⟩
def Qb.l0.os : List Out := [⟨(.exit 0), [.mask [0, 1], .auto 1], ⟨.ptr 0 [] :: .dat .str :: us 39, [.dat Qcq]⟩⟩]
abbrev Qb.τ : Type := (Qcw × Unit)
def Qb.c (k : Nat) {ρ : Type} (s : ByteArray) (b0 : Qcw) (K : Qb.τ → Option ρ) : Option ρ :=
 let v0 : Int := b0.2.2.1
 let v1 : Int := (IntKind.wrap IntKind.i64 (v0 + (((ByteArray.size s) : Nat) : Int)))
 let v2 : ByteArray := b0.2.1
 bif (Nat.ble ((ByteArray.size v2) + (ByteArray.size s)) 9223372036854775807) then (let v3 : ByteArray := (v2 ++ s)
 (Qb.l0 k k (v3, ((b0.1, (b0.2.1, (v1, ()))), ()))).bind fun t9 => (QG k t9.1).bind fun t10 => K ((t9.2.1.1, (t10.1, (t9.2.1.2.2.1, ()))), ())) else (none)
def Qb (k : Nat) (s : ByteArray) (b0 : Qcw) : Option Qb.τ := Qb.c k s b0 some
def Qb.T : Q0b := ⟨[.ptr 0 [], .dat .str], [.dat Qcq], 1⟩
def Qb.os : List Out := [⟨.ret, [.auto 1], ⟨[], [.dat Qcq]⟩⟩]
def Qb.sem (k : Nat) : QA := Q0k Qb.T Qb.os fun x => Qb k x.1 x.2.1
noncomputable def Qb.ctx (k : Nat) : Ctx := ⟨Try.prog, gam [(56, (QR.sem k)), (57, (QG.sem k))]⟩
theorem Qb.gok (k : Nat) : ∀ f, Qo Try.prog f ((Qb.ctx k).Γ f) := (QB (QR.sem_ok k) (QB (QG.sem_ok k) QO))
theorem Qb.l0.round (k : Nat) : Q1b (Qb.ctx k) (Q06 (Func.code Try.f53) [1, 1, 1, 0, 0, 0]) (.nil) Qb.l0.T [.mask [0, 1], .auto 1] Qb.l0.os (Qb.l0.r k) := by
 intro ρ x kn ke; kernel_rfl
theorem Qb.l0.ok (k : Nat) : StOK 1 Try.prog (.loop (Q06 (Func.code Try.f53) [1, 1, 1, 0, 0, 0])) (Q02 Qb.l0.T Qb.l0.os (Qb.l0 k k)) :=
 Q1E (C := Qb.ctx k) (Qb.gok k) Try.mix Qc.nil (by kernel_rfl) (by kernel_rfl) (by kernel_rfl) (Qb.l0.round k) k
def Qb.ann (k : Nat) : Ann := .node [] none (.nil) (.node [] none (.nil) (.node [] none (.nil) (.node [] none (.node [] none (.node [.mask [0, 1], .auto 1] (some (Q02 Qb.l0.T Qb.l0.os (Qb.l0 k k))) .nil .nil) (.nil)) (.nil))))
theorem Qb.body (k : Nat) : Q0r (Qb.ctx k) Try.f53 (Func.code Try.f53) (Qb.ann k) Qb.T Qb.os (fun x K => Qb.c k x.1 x.2.1 K) := by
 intro ρ x K; kernel_rfl
theorem Qb.sem_ok (k : Nat) : Qo Try.prog 53 (Qb.sem k) :=
 QU (C := Qb.ctx k) (Qb.gok k) Try.mix (c := Func.code Try.f53) (ann := Qb.ann k) (T := Qb.T) (os := Qb.os) (fun x K => Qb.c k x.1 x.2.1 K) Try.func53 (by kernel_rfl) (by kernel_rfl) (Qc.seq Qc.nil (Qc.seq Qc.nil (Qc.seq Qc.nil (Qc.seq (Qc.block (Qc.loop (by kernel_rfl) (Qb.l0.ok k))) Qc.nil)))) (Qb.body k) (by kernel_rfl) (by kernel_rfl) (by kernel_rfl)
abbrev QK.τ : Type := (Int × Qcw × Unit)
def QK.c (k : Nat) {ρ : Type} (b0 : Qcw) (K : QK.τ → Option ρ) : Option ρ :=
 let v0 : ByteArray := b0.2.1
 let v1 : ByteArray := b0.2.1
 let v2 : Int := (IntKind.wrap IntKind.i64 ((7 : Int) - (((ByteArray.size v1) : Nat) : Int)))
 (strings_Repeat k (⟨(List.toArray [0])⟩ : ByteArray) v2).bind fun t3 => bif (Nat.ble ((ByteArray.size v0) + (ByteArray.size t3.1)) 9223372036854775807) then (let v4 : ByteArray := (v0 ++ t3.1)
 let v5 : Int := b0.2.2.1
 let v6 : ByteArray := (bytesOf (List.set (List.replicate 1 (0 : Int)) 0 (IntKind.wrap IntKind.u8 v5)))
 bif (Nat.ble ((ByteArray.size v4) + (ByteArray.size v6)) 9223372036854775807) then (let v7 : ByteArray := (v4 ++ v6)
 let v8 : (List Int) := b0.1
 (QR k v8 v7).bind fun t9 => let v10 : Int := (List.getD t9.1 2 (0 : Int))
 let v11 : Int := (Q0z BinOp.xor IntKind.u64 v10 (255 : Int))
 let v12 : (List Int) := (List.set t9.1 2 v11)
 (QL k v12).bind fun t13 => (QL k t13.1).bind fun t14 => (QL k t14.1).bind fun t15 => (QL k t15.1).bind fun t16 => let v17 : Int := (List.getD t16.1 0 (0 : Int))
 let v18 : Int := (List.getD t16.1 1 (0 : Int))
 let v19 : Int := (List.getD t16.1 2 (0 : Int))
 let v20 : Int := (Q0z BinOp.xor IntKind.u64 (Q0z BinOp.xor IntKind.u64 v17 v18) v19)
 let v21 : Int := (List.getD t16.1 3 (0 : Int))
 K ((Q0z BinOp.xor IntKind.u64 v20 v21), ((b0.1, (b0.2.1, (b0.2.2.1, ()))), ()))) else (none)) else (none)
def QK (k : Nat) (b0 : Qcw) : Option QK.τ := QK.c k b0 some
def QK.T : Q0b := ⟨[.ptr 0 []], [.dat Qcq], 1⟩
def QK.os : List Out := [⟨.ret, [.freeze (.slot 0), .auto 1], ⟨[.dat (.int .u64)], [.dat Qcq]⟩⟩]
def QK.sem (k : Nat) : QA := Q0k QK.T QK.os fun x => QK k x.1
noncomputable def QK.ctx (k : Nat) : Ctx := ⟨Try.prog, gam [(58, (strings_Repeat.sem k)), (56, (QR.sem k)), (59, (QL.sem k))]⟩
theorem QK.gok (k : Nat) : ∀ f, Qo Try.prog f ((QK.ctx k).Γ f) := (QB (strings_Repeat.sem_ok k) (QB (QR.sem_ok k) (QB (QL.sem_ok k) QO)))
def QK.ann (k : Nat) : Ann := .nil
theorem QK.body (k : Nat) : Q0r (QK.ctx k) Try.f54 (Func.code Try.f54) (QK.ann k) QK.T QK.os (fun x K => QK.c k x.1 K) := by
 intro ρ x K; kernel_rfl
theorem QK.sem_ok (k : Nat) : Qo Try.prog 54 (QK.sem k) :=
 QU (C := QK.ctx k) (QK.gok k) Try.mix (c := Func.code Try.f54) (ann := QK.ann k) (T := QK.T) (os := QK.os) (fun x K => QK.c k x.1 K) Try.func54 (by kernel_rfl) (by kernel_rfl) Qc.nil (QK.body k) (by kernel_rfl) (by kernel_rfl) (by kernel_rfl)
def QY.c (k : Nat) {ρ : Type} (k_0 : Qcz) (s : ByteArray) (K : Int × Unit → Option ρ) : Option ρ :=
 (Q03 k (k_0.1, (k_0.2.1, ()))).bind fun t0 => (Qb k s (t0.1.1, (t0.1.2.1, (t0.1.2.2.1, ())))).bind fun t1 => (QK k (t1.1.1, (t1.1.2.1, (t1.1.2.2.1, ())))).bind fun t2 => K (t2.1, ())
def QY (k : Nat) (k_0 : Qcz) (s : ByteArray) : Option (Int × Unit) := QY.c k k_0 s some
def QY.tin : List Ty := [Qcu, .str]
def QY.tout : List Ty := [(.int .u64)]
def QY.sem (k : Nat) : QA := QP QY.tin QY.tout fun x => QY k x.1 x.2.1
noncomputable def QY.ctx (k : Nat) : Ctx := ⟨Try.prog, gam [(52, (Q03.sem k)), (53, (Qb.sem k)), (54, (QK.sem k))]⟩
theorem QY.gok (k : Nat) : ∀ f, Qo Try.prog f ((QY.ctx k).Γ f) := (QB (Q03.sem_ok k) (QB (Qb.sem_ok k) (QB (QK.sem_ok k) QO)))
def QY.ann (k : Nat) : Ann := .nil
theorem QY.body (k : Nat) : Q15 (QY.ctx k) Try.f50 (Func.code Try.f50) (QY.ann k) QY.tin QY.tout (fun x K => QY.c k x.1 x.2.1 K) := by
 intro ρ x K; kernel_rfl
theorem QY.sem_ok (k : Nat) : Qo Try.prog 50 (QY.sem k) :=
 Q07 (C := QY.ctx k) (QY.gok k) Try.mix (c := Func.code Try.f50) (ann := QY.ann k) (tin := QY.tin) (tout := QY.tout) (fun x K => QY.c k x.1 x.2.1 K) Try.func50 (by kernel_rfl) (by kernel_rfl) Qc.nil (QY.body k)
end Go.Am
namespace Go.Am
open Go Go.Proofs
set_option maxRecDepth 100000
def QZ.c (k : Nat) {ρ : Type} (k_0 : Qcz) (s : ByteArray) (parts : Int) (K : Int × Int × Unit → Option ρ) : Option ρ :=
 bif (decide (parts < (1 : Int))) then (K ((0 : Int), ((1 : Int), ()))) else (bif (decide (parts > (2147483647 : Int))) then (K ((0 : Int), ((1 : Int), ()))) else ((QY k (k_0.1, (k_0.2.1, ())) s).bind fun t0 => bif (!(decide ((IntKind.wrap IntKind.u64 parts) = (0 : Int)))) then (let v1 : Int := (Int.tmod t0.1 (IntKind.wrap IntKind.u64 parts))
 K ((IntKind.wrap IntKind.i64 v1), ((0 : Int), ()))) else (none)))
def QZ (k : Nat) (k_0 : Qcz) (s : ByteArray) (parts : Int) : Option (Int × Int × Unit) := QZ.c k k_0 s parts some
def QZ.tin : List Ty := [Qcu, .str, (.int .i64)]
def QZ.tout : List Ty := [(.int .i64), (.int .i64)]
def QZ.sem (k : Nat) : QA := QP QZ.tin QZ.tout fun x => QZ k x.1 x.2.1 x.2.2.1
noncomputable def QZ.ctx (k : Nat) : Ctx := ⟨Try.prog, gam [(50, (QY.sem k))]⟩
theorem QZ.gok (k : Nat) : ∀ f, Qo Try.prog f ((QZ.ctx k).Γ f) := (QB (QY.sem_ok k) QO)
def QZ.ann (k : Nat) : Ann := .nil
theorem QZ.body (k : Nat) : Q15 (QZ.ctx k) Try.f47 (Func.code Try.f47) (QZ.ann k) QZ.tin QZ.tout (fun x K => QZ.c k x.1 x.2.1 x.2.2.1 K) := by
 intro ρ x K; kernel_rfl
theorem QZ.sem_ok (k : Nat) : Qo Try.prog 47 (QZ.sem k) :=
 Q07 (C := QZ.ctx k) (QZ.gok k) Try.mix (c := Func.code Try.f47) (ann := QZ.ann k) (tin := QZ.tin) (tout := QZ.tout) (fun x K => QZ.c k x.1 x.2.1 x.2.2.1 K) Try.func47 (by kernel_rfl) (by kernel_rfl) Qc.nil (QZ.body k)
end Go.Am
namespace Go.Am
open Go Go.Proofs
set_option maxRecDepth 100000
abbrev Qz.τ : Type := Qcs 
def Qz.c (k : Nat) {ρ : Type}  (K : Qz.τ → Option ρ) : Option ρ :=
 K ((((), ((), ())), ()), ([], ()))
def Qz (k : Nat)  : Option Qz.τ := Qz.c k  some
def Qz.T : Q0b := ⟨[], [], 0⟩
def Qz.os : List Out := [⟨.ret, [.auto 0], ⟨[.ptr 0 []], [.pair (.pair (.sfp 0 [0] 96) (.pair (.vbs 1) (.dat .unit))) (.dat .unit), .vec (.int .u8)]⟩⟩]
def Qz.sem (k : Nat) : QA := Q0k Qz.T Qz.os fun x => Qz k 
noncomputable def Qz.ctx (k : Nat) : Ctx := ⟨Try.prog, gam []⟩
theorem Qz.gok (k : Nat) : ∀ f, Qo Try.prog f ((Qz.ctx k).Γ f) := QO
def Qz.ann (k : Nat) : Ann := .nil
theorem Qz.body (k : Nat) : Q0r (Qz.ctx k) Try.f30 (Func.code Try.f30) (Qz.ann k) Qz.T Qz.os (fun x K => Qz.c k  K) := by
 intro ρ x K; kernel_rfl
theorem Qz.sem_ok (k : Nat) : Qo Try.prog 30 (Qz.sem k) :=
 QU (C := Qz.ctx k) (Qz.gok k) Try.mix (c := Func.code Try.f30) (ann := Qz.ann k) (T := Qz.T) (os := Qz.os) (fun x K => Qz.c k  K) Try.func30 (by kernel_rfl) (by kernel_rfl) Qc.nil (Qz.body k) (by kernel_rfl) (by kernel_rfl) (by kernel_rfl)
abbrev Q6.τ : Type := (Int × Qcy × (List Int) × Unit)
def Q6.c (k : Nat) {ρ : Type} (s : ByteArray) (b0 : Qcy) (b1 : (List Int)) (K : Q6.τ → Option ρ) : Option ρ :=
 bif (Nat.ble (((List.length b1) + (List.length (Q0D s))) * 1) 140737488355328) then (K ((((ByteArray.size s) : Nat) : Int), ((((), ((), ())), ()), ((b1 ++ (Q0D s)), ())))) else (none)
def Q6 (k : Nat) (s : ByteArray) (b0 : Qcy) (b1 : (List Int)) : Option Q6.τ := Q6.c k s b0 b1 some
def Q6.T : Q0b := ⟨[.ptr 0 [0], .dat .str], [.pair (.pair (.sfp 0 [0] 96) (.pair (.vbs 1) (.dat .unit))) (.dat .unit), .vec (.int .u8)], 1⟩
def Q6.os : List Out := [⟨.ret, [.freeze (.slot 0), .auto 1], ⟨[.dat (.int .i64), .undef], [.pair (.pair (.sfp 0 [0] 96) (.pair (.vbs 1) (.dat .unit))) (.dat .unit), .vec (.int .u8)]⟩⟩]
def Q6.sem (k : Nat) : QA := Q0k Q6.T Q6.os fun x => Q6 k x.1 x.2.1 x.2.2.1
noncomputable def Q6.ctx (k : Nat) : Ctx := ⟨Try.prog, gam [(51, (QaF 96 2))]⟩
theorem Q6.gok (k : Nat) : ∀ f, Qo Try.prog f ((Q6.ctx k).Γ f) := (QB Bld.copyCheck QO)
def Q6.ann (k : Nat) : Ann := .nil
theorem Q6.body (k : Nat) : Q0r (Q6.ctx k) Try.f48 (Func.code Try.f48) (Q6.ann k) Q6.T Q6.os (fun x K => Q6.c k x.1 x.2.1 x.2.2.1 K) := by
 intro ρ x K; kernel_rfl
theorem Q6.sem_ok (k : Nat) : Qo Try.prog 48 (Q6.sem k) :=
 QU (C := Q6.ctx k) (Q6.gok k) Try.mix (c := Func.code Try.f48) (ann := Q6.ann k) (T := Q6.T) (os := Q6.os) (fun x K => Q6.c k x.1 x.2.1 x.2.2.1 K) Try.func48 (by kernel_rfl) (by kernel_rfl) Qc.nil (Q6.body k) (by kernel_rfl) (by kernel_rfl) (by kernel_rfl)
abbrev Qh.τ : Type := Qcs 
def Qh.c (k : Nat) {ρ : Type} (s : ByteArray) (b0 : Qcy) (b1 : (List Int)) (K : Qh.τ → Option ρ) : Option ρ :=
 (Q6 k s (((), ((), ())), ()) b1).bind fun t0 => K ((((), ((), ())), ()), (t0.2.2.1, ()))
def Qh (k : Nat) (s : ByteArray) (b0 : Qcy) (b1 : (List Int)) : Option Qh.τ := Qh.c k s b0 b1 some
def Qh.T : Q0b := ⟨[.ptr 0 [], .dat .str], [.pair (.pair (.sfp 0 [0] 96) (.pair (.vbs 1) (.dat .unit))) (.dat .unit), .vec (.int .u8)], 1⟩
def Qh.os : List Out := [⟨.ret, [.auto 1], ⟨[], [.pair (.pair (.sfp 0 [0] 96) (.pair (.vbs 1) (.dat .unit))) (.dat .unit), .vec (.int .u8)]⟩⟩]
def Qh.sem (k : Nat) : QA := Q0k Qh.T Qh.os fun x => Qh k x.1 x.2.1 x.2.2.1
noncomputable def Qh.ctx (k : Nat) : Ctx := ⟨Try.prog, gam [(48, (Q6.sem k))]⟩
theorem Qh.gok (k : Nat) : ∀ f, Qo Try.prog f ((Qh.ctx k).Γ f) := (QB (Q6.sem_ok k) QO)
def Qh.ann (k : Nat) : Ann := .nil
theorem Qh.body (k : Nat) : Q0r (Qh.ctx k) Try.f41 (Func.code Try.f41) (Qh.ann k) Qh.T Qh.os (fun x K => Qh.c k x.1 x.2.1 x.2.2.1 K) := by
 intro ρ x K; kernel_rfl
theorem Qh.sem_ok (k : Nat) : Qo Try.prog 41 (Qh.sem k) :=
 QU (C := Qh.ctx k) (Qh.gok k) Try.mix (c := Func.code Try.f41) (ann := Qh.ann k) (T := Qh.T) (os := Qh.os) (fun x K => Qh.c k x.1 x.2.1 x.2.2.1 K) Try.func41 (by kernel_rfl) (by kernel_rfl) Qc.nil (Qh.body k) (by kernel_rfl) (by kernel_rfl) (by kernel_rfl)
abbrev QJ.l0.σ : Type := Int × Int × Int × (List Int) × Unit
abbrev QJ.l0.τ : Type := ((List Int) × Unit)
def QJ.l0.r (k : Nat) {ρ : Type} (x : QJ.l0.σ) (kn : QJ.l0.σ → Option ρ) (ke : QJ.l0.τ → Option ρ) : Option ρ :=
 bif (decide (x.2.2.1 < x.2.1)) then (let v1 : Int := (IntKind.wrap IntKind.i64 ((8 : Int) * x.2.2.1))
 bif (decide ((0 : Int) ≤ v1)) then (let v2 : Int := (Q8G IntKind.u64 x.1 v1)
 bif (decide (((0 : Int) ≤ x.2.2.1) ∧ (x.2.2.1 < (((List.length x.2.2.2.1) : Nat) : Int)))) then (let v3 : Int := (IntKind.wrap IntKind.i64 (x.2.2.1 + (1 : Int)))
 kn (x.1, (x.2.1, (v3, ((List.set x.2.2.2.1 (Int.toNat x.2.2.1) (IntKind.wrap IntKind.u8 v2)), ()))))) else (none)) else (none)) else (ke (x.2.2.2.1, ()))
def QJ.l0 (k : Nat) : Nat → QJ.l0.σ → Option QJ.l0.τ := Q0W (QJ.l0.r k)
def QJ.l0.T : StT := ⟨.dat (.int .u64) :: us 4 ++ .vsl 0 :: us 4 ++ .dat (.int .i64) :: .dat (.int .i64) :: us 13, [.vec (.int .u8)]⟩
def QJ.l0.os : List Out := [⟨(.exit 0), [.mask [5], .auto 0], ⟨us 5 ++ .vsl 0 :: us 19, [.vec (.int .u8)]⟩⟩]
def QJ.c (k : Nat) {ρ : Type} (n : Int) (bytes : Int) (K : ByteArray × Unit → Option ρ) : Option ρ :=
 bif ((decide (((0 : Int) ≤ bytes) ∧ (bytes ≤ bytes))) && (Nat.ble ((Int.toNat bytes) * 1) 140737488355328)) then (let v0 : Int := (((List.length (List.replicate (Int.toNat bytes) (0 : Int))) : Nat) : Int)
 (QJ.l0 k k (n, (v0, ((0 : Int), ((List.replicate (Int.toNat bytes) (0 : Int)), ()))))).bind fun t4 => K ((bytesOf t4.1), ())) else (none)
def QJ (k : Nat) (n : Int) (bytes : Int) : Option QcA := QJ.c k n bytes some
def QJ.tin : List Ty := [(.int .u64), (.int .i64)]
def QJ.tout : List Ty := [.str]
def QJ.sem (k : Nat) : QA := QP QJ.tin QJ.tout fun x => QJ k x.1 x.2.1
noncomputable def QJ.ctx (k : Nat) : Ctx := ⟨Try.prog, gam []⟩
theorem QJ.gok (k : Nat) : ∀ f, Qo Try.prog f ((QJ.ctx k).Γ f) := QO
theorem QJ.l0.round (k : Nat) : Q1b (QJ.ctx k) (Q06 (Func.code Try.f42) [1, 1, 0, 1, 0, 0]) (.nil) QJ.l0.T [.mask [0, 5, 10, 11], .auto 0] QJ.l0.os (QJ.l0.r k) := by
 intro ρ x kn ke; kernel_rfl
theorem QJ.l0.ok (k : Nat) : StOK 0 Try.prog (.loop (Q06 (Func.code Try.f42) [1, 1, 0, 1, 0, 0])) (Q02 QJ.l0.T QJ.l0.os (QJ.l0 k k)) :=
 Q1E (C := QJ.ctx k) (QJ.gok k) Try.mix Qc.nil (by kernel_rfl) (by kernel_rfl) (by kernel_rfl) (QJ.l0.round k) k
def QJ.ann (k : Nat) : Ann := .node [] none (.nil) (.node [] none (.nil) (.node [] none (.node [] none (.nil) (.node [] none (.node [.mask [0, 5, 10, 11], .auto 0] (some (Q02 QJ.l0.T QJ.l0.os (QJ.l0 k k))) .nil .nil) (.nil))) (.nil)))
theorem QJ.body (k : Nat) : Q15 (QJ.ctx k) Try.f42 (Func.code Try.f42) (QJ.ann k) QJ.tin QJ.tout (fun x K => QJ.c k x.1 x.2.1 K) := by
 intro ρ x K; kernel_rfl
theorem QJ.sem_ok (k : Nat) : Qo Try.prog 42 (QJ.sem k) :=
 Q07 (C := QJ.ctx k) (QJ.gok k) Try.mix (c := Func.code Try.f42) (ann := QJ.ann k) (tin := QJ.tin) (tout := QJ.tout) (fun x K => QJ.c k x.1 x.2.1 K) Try.func42 (by kernel_rfl) (by kernel_rfl) (Qc.seq Qc.nil (Qc.seq Qc.nil (Qc.seq (Qc.seq Qc.nil (Qc.block (Qc.loop (by kernel_rfl) (QJ.l0.ok k)))) Qc.nil))) (QJ.body k)
abbrev Qv.τ : Type := Qcs 
def Qv.c (k : Nat) {ρ : Type} (n : Int) (b0 : Qcy) (b1 : (List Int)) (K : Qv.τ → Option ρ) : Option ρ :=
 (QJ k (IntKind.wrap IntKind.u64 n) (2 : Int)).bind fun t0 => (Qh k t0.1 (((), ((), ())), ()) b1).bind fun t1 => K ((((), ((), ())), ()), (t1.2.1, ()))
def Qv (k : Nat) (n : Int) (b0 : Qcy) (b1 : (List Int)) : Option Qv.τ := Qv.c k n b0 b1 some
def Qv.T : Q0b := ⟨[.ptr 0 [], .dat (.int .u16)], [.pair (.pair (.sfp 0 [0] 96) (.pair (.vbs 1) (.dat .unit))) (.dat .unit), .vec (.int .u8)], 1⟩
def Qv.os : List Out := [⟨.ret, [.auto 1], ⟨[], [.pair (.pair (.sfp 0 [0] 96) (.pair (.vbs 1) (.dat .unit))) (.dat .unit), .vec (.int .u8)]⟩⟩]
def Qv.sem (k : Nat) : QA := Q0k Qv.T Qv.os fun x => Qv k x.1 x.2.1 x.2.2.1
noncomputable def Qv.ctx (k : Nat) : Ctx := ⟨Try.prog, gam [(42, (QJ.sem k)), (41, (Qh.sem k))]⟩
theorem Qv.gok (k : Nat) : ∀ f, Qo Try.prog f ((Qv.ctx k).Γ f) := (QB (QJ.sem_ok k) (QB (Qh.sem_ok k) QO))
def Qv.ann (k : Nat) : Ann := .nil
theorem Qv.body (k : Nat) : Q0r (Qv.ctx k) Try.f49 (Func.code Try.f49) (Qv.ann k) Qv.T Qv.os (fun x K => Qv.c k x.1 x.2.1 x.2.2.1 K) := by
 intro ρ x K; kernel_rfl
theorem Qv.sem_ok (k : Nat) : Qo Try.prog 49 (Qv.sem k) :=
 QU (C := Qv.ctx k) (Qv.gok k) Try.mix (c := Func.code Try.f49) (ann := Qv.ann k) (T := Qv.T) (os := Qv.os) (fun x K => Qv.c k x.1 x.2.1 x.2.2.1 K) Try.func49 (by kernel_rfl) (by kernel_rfl) Qc.nil (Qv.body k) (by kernel_rfl) (by kernel_rfl) (by kernel_rfl)
abbrev Qp.τ : Type := Qcs 
def Qp.c (k : Nat) {ρ : Type} (n : Int) (b0 : Qcy) (b1 : (List Int)) (K : Qp.τ → Option ρ) : Option ρ :=
 let v0 : Int := (Q8i IntKind.u16 n (8 : Int))
 let v1 : Int := (Q8G IntKind.u16 n (8 : Int))
 (Qv k (Q0z BinOp.or IntKind.u16 v0 v1) (((), ((), ())), ()) b1).bind fun t2 => K ((((), ((), ())), ()), (t2.2.1, ()))
def Qp (k : Nat) (n : Int) (b0 : Qcy) (b1 : (List Int)) : Option Qp.τ := Qp.c k n b0 b1 some
def Qp.T : Q0b := ⟨[.ptr 0 [], .dat (.int .u16)], [.pair (.pair (.sfp 0 [0] 96) (.pair (.vbs 1) (.dat .unit))) (.dat .unit), .vec (.int .u8)], 1⟩
def Qp.os : List Out := [⟨.ret, [.auto 1], ⟨[], [.pair (.pair (.sfp 0 [0] 96) (.pair (.vbs 1) (.dat .unit))) (.dat .unit), .vec (.int .u8)]⟩⟩]
def Qp.sem (k : Nat) : QA := Q0k Qp.T Qp.os fun x => Qp k x.1 x.2.1 x.2.2.1
noncomputable def Qp.ctx (k : Nat) : Ctx := ⟨Try.prog, gam [(49, (Qv.sem k))]⟩
theorem Qp.gok (k : Nat) : ∀ f, Qo Try.prog f ((Qp.ctx k).Γ f) := (QB (Qv.sem_ok k) QO)
def Qp.ann (k : Nat) : Ann := .nil
theorem Qp.body (k : Nat) : Q0r (Qp.ctx k) Try.f44 (Func.code Try.f44) (Qp.ann k) Qp.T Qp.os (fun x K => Qp.c k x.1 x.2.1 x.2.2.1 K) := by
 intro ρ x K; kernel_rfl
theorem Qp.sem_ok (k : Nat) : Qo Try.prog 44 (Qp.sem k) :=
 QU (C := Qp.ctx k) (Qp.gok k) Try.mix (c := Func.code Try.f44) (ann := Qp.ann k) (T := Qp.T) (os := Qp.os) (fun x K => Qp.c k x.1 x.2.1 x.2.2.1 K) Try.func44 (by kernel_rfl) (by kernel_rfl) Qc.nil (Qp.body k) (by kernel_rfl) (by kernel_rfl) (by kernel_rfl)
abbrev Qm.τ : Type := QcA 
def Qm.c (k : Nat) {ρ : Type} (b0 : Qcy) (b1 : (List Int)) (K : Qm.τ → Option ρ) : Option ρ :=
 bif (Nat.ble (List.length b1) 9223372036854775807) then (K ((bytesOf b1), ())) else (none)
def Qm (k : Nat) (b0 : Qcy) (b1 : (List Int)) : Option Qm.τ := Qm.c k b0 b1 some
def Qm.T : Q0b := ⟨[.ptr 0 []], [.pair (.pair (.sfp 0 [0] 96) (.pair (.vbs 1) (.dat .unit))) (.dat .unit), .vec (.int .u8)], 1⟩
def Qm.os : List Out := [⟨.ret, [.freeze (.slot 0), .auto 1], ⟨[.dat .str], [.undef]⟩⟩]
def Qm.sem (k : Nat) : QA := Q0k Qm.T Qm.os fun x => Qm k x.1 x.2.1
noncomputable def Qm.ctx (k : Nat) : Ctx := ⟨Try.prog, gam [(46, Q8K)]⟩
theorem Qm.gok (k : Nat) : ∀ f, Qo Try.prog f ((Qm.ctx k).Γ f) := (QB Bld.string QO)
def Qm.ann (k : Nat) : Ann := .nil
theorem Qm.body (k : Nat) : Q0r (Qm.ctx k) Try.f34 (Func.code Try.f34) (Qm.ann k) Qm.T Qm.os (fun x K => Qm.c k x.1 x.2.1 K) := by
 intro ρ x K; kernel_rfl
theorem Qm.sem_ok (k : Nat) : Qo Try.prog 34 (Qm.sem k) :=
 QU (C := Qm.ctx k) (Qm.gok k) Try.mix (c := Func.code Try.f34) (ann := Qm.ann k) (T := Qm.T) (os := Qm.os) (fun x K => Qm.c k x.1 x.2.1 K) Try.func34 (by kernel_rfl) (by kernel_rfl) Qc.nil (Qm.body k) (by kernel_rfl) (by kernel_rfl) (by kernel_rfl)
def QT.c (k : Nat) {ρ : Type} (a : Qcv) (K : ByteArray × Unit → Option ρ) : Option ρ :=
 (Qz k ).bind fun t0 => let v1 : ByteArray := (bytesOf (List.take 16 (List.drop 0 a.2.2.1)))
 (Qh k v1 (((), ((), ())), ()) t0.2.1).bind fun t2 => let v3 : Int := a.2.2.2.1
 (Qp k v3 (((), ((), ())), ()) t2.2.1).bind fun t4 => (Qm k (((), ((), ())), ()) t4.2.1).bind fun t5 => K (t5.1, ())
def QT (k : Nat) (a : Qcv) : Option QcA := QT.c k a some
def QT.tin : List Ty := [Qcp]
def QT.tout : List Ty := [.str]
def QT.sem (k : Nat) : QA := QP QT.tin QT.tout fun x => QT k x.1
noncomputable def QT.ctx (k : Nat) : Ctx := ⟨Try.prog, gam [(30, (Qz.sem k)), (41, (Qh.sem k)), (44, (Qp.sem k)), (34, (Qm.sem k))]⟩
theorem QT.gok (k : Nat) : ∀ f, Qo Try.prog f ((QT.ctx k).Γ f) := (QB (Qz.sem_ok k) (QB (Qh.sem_ok k) (QB (Qp.sem_ok k) (QB (Qm.sem_ok k) QO))))
def QT.ann (k : Nat) : Ann := .nil
theorem QT.body (k : Nat) : Q15 (QT.ctx k) Try.f38 (Func.code Try.f38) (QT.ann k) QT.tin QT.tout (fun x K => QT.c k x.1 K) := by
 intro ρ x K; kernel_rfl
theorem QT.sem_ok (k : Nat) : Qo Try.prog 38 (QT.sem k) :=
 Q07 (C := QT.ctx k) (QT.gok k) Try.mix (c := Func.code Try.f38) (ann := QT.ann k) (tin := QT.tin) (tout := QT.tout) (fun x K => QT.c k x.1 K) Try.func38 (by kernel_rfl) (by kernel_rfl) Qc.nil (QT.body k)
end Go.Am
namespace Go.Am
open Go Go.Proofs
set_option maxRecDepth 100000
def QQ.c (k : Nat) {ρ : Type} (a : Qcv) (K : ByteArray × Unit → Option ρ) : Option ρ :=
 let v0 : ByteArray := (bytesOf (List.take 2 (List.drop 0 a.2.2.1)))
 K (v0, ())
def QQ (k : Nat) (a : Qcv) : Option QcA := QQ.c k a some
def QQ.tin : List Ty := [Qcp]
def QQ.tout : List Ty := [.str]
def QQ.sem (k : Nat) : QA := QP QQ.tin QQ.tout fun x => QQ k x.1
noncomputable def QQ.ctx (k : Nat) : Ctx := ⟨Try.prog, gam []⟩
theorem QQ.gok (k : Nat) : ∀ f, Qo Try.prog f ((QQ.ctx k).Γ f) := QO
def QQ.ann (k : Nat) : Ann := .nil
theorem QQ.body (k : Nat) : Q15 (QQ.ctx k) Try.f36 (Func.code Try.f36) (QQ.ann k) QQ.tin QQ.tout (fun x K => QQ.c k x.1 K) := by
 intro ρ x K; kernel_rfl
theorem QQ.sem_ok (k : Nat) : Qo Try.prog 36 (QQ.sem k) :=
 Q07 (C := QQ.ctx k) (QQ.gok k) Try.mix (c := Func.code Try.f36) (ann := QQ.ann k) (tin := QQ.tin) (tout := QQ.tout) (fun x K => QQ.c k x.1 K) Try.func36 (by kernel_rfl) (by kernel_rfl) Qc.nil (QQ.body k)
end Go.Am
namespace Go.Am
open Go Go.Proofs
set_option maxRecDepth 100000
def Q00.c (k : Nat) {ρ : Type} (n : Int) (K : ByteArray × Unit → Option ρ) : Option ρ :=
 let v0 : ByteArray := (bytesOf (List.set (List.replicate 1 (0 : Int)) 0 (IntKind.wrap IntKind.u8 n)))
 K (v0, ())
def Q00 (k : Nat) (n : Int) : Option QcA := Q00.c k n some
def Q00.tin : List Ty := [(.int .i64)]
def Q00.tout : List Ty := [.str]
def Q00.sem (k : Nat) : QA := QP Q00.tin Q00.tout fun x => Q00 k x.1
noncomputable def Q00.ctx (k : Nat) : Ctx := ⟨Try.prog, gam []⟩
theorem Q00.gok (k : Nat) : ∀ f, Qo Try.prog f ((Q00.ctx k).Γ f) := QO
def Q00.ann (k : Nat) : Ann := .nil
theorem Q00.body (k : Nat) : Q15 (Q00.ctx k) Try.f37 (Func.code Try.f37) (Q00.ann k) Q00.tin Q00.tout (fun x K => Q00.c k x.1 K) := by
 intro ρ x K; kernel_rfl
theorem Q00.sem_ok (k : Nat) : Qo Try.prog 37 (Q00.sem k) :=
 Q07 (C := Q00.ctx k) (Q00.gok k) Try.mix (c := Func.code Try.f37) (ann := Q00.ann k) (tin := Q00.tin) (tout := Q00.tout) (fun x K => Q00.c k x.1 K) Try.func37 (by kernel_rfl) (by kernel_rfl) Qc.nil (Q00.body k)
end Go.Am
namespace Go.Am
open Go Go.Proofs
set_option maxRecDepth 100000
def Q09.c (k : Nat) {ρ : Type} (a : Qcv) (K : ((List Int) × (Int × Unit)) × Unit → Option ρ) : Option ρ :=
 let v0 : (List Int) := a.2.2.1
 let v1 : Int := a.2.2.2.1
 K ((v0, (v1, ())), ())
def Q09 (k : Nat) (a : Qcv) : Option (((List Int) × (Int × Unit)) × Unit) := Q09.c k a some
def Q09.tin : List Ty := [Qcp]
def Q09.tout : List Ty := [(.pair (.arr 16 (.int .u8)) (.pair (.int .u16) .unit))]
def Q09.sem (k : Nat) : QA := QP Q09.tin Q09.tout fun x => Q09 k x.1
noncomputable def Q09.ctx (k : Nat) : Ctx := ⟨Try.prog, gam []⟩
theorem Q09.gok (k : Nat) : ∀ f, Qo Try.prog f ((Q09.ctx k).Γ f) := QO
def Q09.ann (k : Nat) : Ann := .nil
theorem Q09.body (k : Nat) : Q15 (Q09.ctx k) Try.f29 (Func.code Try.f29) (Q09.ann k) Q09.tin Q09.tout (fun x K => Q09.c k x.1 K) := by
 intro ρ x K; kernel_rfl
theorem Q09.sem_ok (k : Nat) : Qo Try.prog 29 (Q09.sem k) :=
 Q07 (C := Q09.ctx k) (Q09.gok k) Try.mix (c := Func.code Try.f29) (ann := Q09.ann k) (tin := Q09.tin) (tout := Q09.tout) (fun x K => Q09.c k x.1 K) Try.func29 (by kernel_rfl) (by kernel_rfl) Qc.nil (Q09.body k)
end Go.Am
namespace Go.Am
open Go Go.Proofs
set_option maxRecDepth 100000
def Q08.c (k : Nat) {ρ : Type} (a : Qcv) (K : Bool × Unit → Option ρ) : Option ρ :=
 let v0 : Int := a.2.2.2.1
 bif (v0 != (0 : Int)) then (let v1 : (List Int) := a.2.2.1
 let v2 : (List Int) := (List.replicate 16 (0 : Int))
 K ((!(decide (v1 = v2))), ())) else (K (false, ()))
def Q08 (k : Nat) (a : Qcv) : Option (Bool × Unit) := Q08.c k a some
def Q08.tin : List Ty := [Qcp]
def Q08.tout : List Ty := [.bool]
def Q08.sem (k : Nat) : QA := QP Q08.tin Q08.tout fun x => Q08 k x.1
noncomputable def Q08.ctx (k : Nat) : Ctx := ⟨Try.prog, gam []⟩
theorem Q08.gok (k : Nat) : ∀ f, Qo Try.prog f ((Q08.ctx k).Γ f) := QO
def Q08.ann (k : Nat) : Ann := .nil
theorem Q08.body (k : Nat) : Q15 (Q08.ctx k) Try.f18 (Func.code Try.f18) (Q08.ann k) Q08.tin Q08.tout (fun x K => Q08.c k x.1 K) := by
 intro ρ x K; kernel_rfl
theorem Q08.sem_ok (k : Nat) : Qo Try.prog 18 (Q08.sem k) :=
 Q07 (C := Q08.ctx k) (Q08.gok k) Try.mix (c := Func.code Try.f18) (ann := Q08.ann k) (tin := Q08.tin) (tout := Q08.tout) (fun x K => Q08.c k x.1 K) Try.func18 (by kernel_rfl) (by kernel_rfl) Qc.nil (Q08.body k)
end Go.Am
