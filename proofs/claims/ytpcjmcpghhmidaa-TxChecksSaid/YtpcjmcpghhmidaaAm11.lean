/- A part of a proof: a machine of abstract values that tells what functions of the program compute, and the plain facts on them. -/
import Derived.Test.YtpcjmcpghhmidaaAm9
import Derived.KernelRfl
set_option linter.unusedVariables false
set_option linter.unusedSimpArgs false
set_option linter.unnecessarySimpa false
set_option linter.unusedSectionVars false
namespace Go.Am
abbrev Qh1 : Ty := (.pair (.int .u32) .unit)
abbrev Qh0 : Type := ((Unit × (Unit × Unit)) × Unit)
abbrev QgZ : Type := (List (Int × (ByteArray × Unit)))
abbrev QgY : Ty := (.pair (.int .u64) (.pair .str .unit))
abbrev QgX : Type := (Int × (Unit × (Unit × (Int × Unit))))
abbrev QgW : Type := (ByteArray × (Int × (Int × (Int × Unit))))
abbrev QgV : Ty := (.sl  QgY )
abbrev QgU : Type := ( Qh0  × (List Int) × Unit)
abbrev QgT : Type := (List ((List Int) × (Int × (ByteArray × (Int × Unit)))))
abbrev QgS : Type := (List (((List Int) × (Int × Unit)) × (ByteArray × (Int × Unit))))
abbrev QgR : Ty := (.pair .str (.pair (.int .i64) (.pair (.int .i64) (.pair (.int .i64) .unit))))
abbrev QgQ : Ty := (.pair (.arr 32 (.int .u8)) (.pair (.int .u32) (.pair .str  Qh1 )))
abbrev QgP : Ty := (.pair (.pair (.arr 32 (.int .u8))  Qh1 ) (.pair .str  Qh1 ))
abbrev QgO : Ty := (.sl  QgP )
abbrev QgN : Type := (Int × ( QgT  × ( QgZ  × (Int × Unit))))
abbrev QgM : Type := (Int × ( QgS  × ( QgZ  × (Int × Unit))))
abbrev QgL : Type := ( QgM  × Unit)
abbrev QgK : Type := (Int × Int × Int × Int ×  QgW  ×  QgW  ×  QgW  × Unit)
abbrev QgJ : Type := ( QgM  ×  Qh0  × (List Int) × Unit)
abbrev QgI : Type := ( QgX  ×  QgW  ×  QgX  ×  QgT  × Unit)
abbrev QgH : Ty := (.pair (.int .u32) (.pair (.sl  QgQ ) (.pair  QgV   Qh1 )))
abbrev QgG : Type := ( QgX  ×  QgW  ×  QgX  ×  QgS  × Unit)
abbrev QgF : Ty := (.pair (.int .u32) (.pair  QgO  (.pair  QgV   Qh1 )))
abbrev QgE : Type := ( QgX  ×  QgW  ×  QgX  ×  QgT  ×  QgZ  × Unit)
abbrev QgD : Type := ( QgX  ×  QgW  ×  QgX  ×  QgS  ×  QgZ  × Unit)
abbrev QgC : Type := ( QgN  ×  QgN  × Unit)
end Go.Am
namespace Go.Am
open Go Go.Proofs
set_option maxRecDepth 100000
abbrev QU.τ : Type := (ByteArray × QgW × Unit)
def QU.c (k : Nat) {ρ : Type} (n : Int) (b0 : QgW) (K : QU.τ → Option ρ) : Option ρ :=
 let v0 : Int := b0.2.2.2.1
 bif (v0 != (0 : Int)) then (K ((⟨(List.toArray [])⟩ : ByteArray), ((b0.1, (b0.2.1, (b0.2.2.1, (b0.2.2.2.1, ())))), ()))) else (let v1 : Int := b0.2.2.1
 let v2 : Int := b0.2.1
 let v3 : Int := (IntKind.wrap IntKind.i64 (v1 - v2))
 let v4 : Int := (IntKind.wrap IntKind.i64 ((4096 : Int) - v3))
 bif (decide (n > v4)) then (K ((⟨(List.toArray [])⟩ : ByteArray), ((b0.1, (b0.2.1, (b0.2.2.1, ((101 : Int), ())))), ()))) else (let v5 : ByteArray := b0.1
 let v6 : Int := b0.2.2.1
 let v7 : Int := (IntKind.wrap IntKind.i64 ((((ByteArray.size v5) : Nat) : Int) - v6))
 bif (decide (n > v7)) then (K ((⟨(List.toArray [])⟩ : ByteArray), ((b0.1, (b0.2.1, (b0.2.2.1, ((4 : Int), ())))), ()))) else (let v8 : Int := b0.2.2.1
 let v9 : Int := (IntKind.wrap IntKind.i64 (v8 + n))
 let v10 : ByteArray := b0.1
 let v11 : Int := (IntKind.wrap IntKind.i64 (v9 - n))
 bif (decide (((0 : Int) ≤ v11) ∧ ((v11 ≤ v9) ∧ (v9 ≤ (((ByteArray.size v10) : Nat) : Int))))) then (K ((ByteArray.extract v10 (Int.toNat v11) (Int.toNat v9)), ((b0.1, (b0.2.1, (v9, (b0.2.2.2.1, ())))), ()))) else (none))))
def QU (k : Nat) (n : Int) (b0 : QgW) : Option QU.τ := QU.c k n b0 some
def QU.T : Q1F := ⟨[.ptr 0 [], .dat (.int .i64)], [.dat QgR], 1⟩
def QU.os : List Out := [⟨.ret, [.freeze (.slot 0), .auto 1], ⟨[.dat .str], [.dat QgR]⟩⟩]
def QU.sem (k : Nat) : QY := Q1U QU.T QU.os fun x => QU k x.1 x.2.1
noncomputable def QU.ctx (k : Nat) : Ctx := ⟨Try.prog, gam []⟩
theorem QU.gok (k : Nat) : ∀ f, QG Try.prog f ((QU.ctx k).Γ f) := Q0e
def QU.ann (k : Nat) : Ann := .nil
theorem QU.body (k : Nat) : Q1S (QU.ctx k) Try.f66 (Func.code Try.f66) (QU.ann k) QU.T QU.os (fun x K => QU.c k x.1 x.2.1 K) := by
 intro ρ x K; kernel_rfl
theorem QU.sem_ok (k : Nat) : QG Try.prog 66 (QU.sem k) :=
 Q1c (C := QU.ctx k) (QU.gok k) Try.mix (c := Func.code Try.f66) (ann := QU.ann k) (T := QU.T) (os := QU.os) (fun x K => QU.c k x.1 x.2.1 K) Try.func66 (by kernel_rfl) (by kernel_rfl) Q3.nil (QU.body k) (by kernel_rfl) (by kernel_rfl) (by kernel_rfl)
abbrev Q0t.τ : Type := (Int × (ByteArray × (Int × (Int × Unit))) × Unit)
def Q0t.c (k : Nat) {ρ : Type} (b0 : (ByteArray × (Int × (Int × Unit)))) (K : Q0t.τ → Option ρ) : Option ρ :=
 (QV k (4 : Int) (b0.1, (b0.2.1, (b0.2.2.1, ())))).bind fun t0 => (Q0l k t0.1).bind fun t1 => let v2 : Int := (IntKind.wrap IntKind.u32 t1.1)
 K (v2, ((t0.2.1.1, (t0.2.1.2.1, (t0.2.1.2.2.1, ()))), ()))
def Q0t (k : Nat) (b0 : (ByteArray × (Int × (Int × Unit)))) : Option Q0t.τ := Q0t.c k b0 some
def Q0t.T : Q1F := ⟨[.ptr 0 []], [.dat (.pair .str (.pair (.int .i64) (.pair (.int .i64) .unit)))], 1⟩
def Q0t.os : List Out := [⟨.ret, [.freeze (.slot 0), .auto 1], ⟨[.dat (.int .u32)], [.dat (.pair .str (.pair (.int .i64) (.pair (.int .i64) .unit)))]⟩⟩]
def Q0t.sem (k : Nat) : QY := Q1U Q0t.T Q0t.os fun x => Q0t k x.1
noncomputable def Q0t.ctx (k : Nat) : Ctx := ⟨Try.prog, gam [(97, (QV.sem k)), (101, (Q0l.sem k))]⟩
theorem Q0t.gok (k : Nat) : ∀ f, QG Try.prog f ((Q0t.ctx k).Γ f) := (Qq (QV.sem_ok k) (Qq (Q0l.sem_ok k) Q0e))
def Q0t.ann (k : Nat) : Ann := .nil
theorem Q0t.body (k : Nat) : Q1S (Q0t.ctx k) Try.f99 (Func.code Try.f99) (Q0t.ann k) Q0t.T Q0t.os (fun x K => Q0t.c k x.1 K) := by
 intro ρ x K; kernel_rfl
theorem Q0t.sem_ok (k : Nat) : QG Try.prog 99 (Q0t.sem k) :=
 Q1c (C := Q0t.ctx k) (Q0t.gok k) Try.mix (c := Func.code Try.f99) (ann := Q0t.ann k) (T := Q0t.T) (os := Q0t.os) (fun x K => Q0t.c k x.1 K) Try.func99 (by kernel_rfl) (by kernel_rfl) Q3.nil (Q0t.body k) (by kernel_rfl) (by kernel_rfl) (by kernel_rfl)
abbrev Q0u.τ : Type := (Int × QgW × Unit)
def Q0u.c (k : Nat) {ρ : Type} (b0 : QgW) (K : Q0u.τ → Option ρ) : Option ρ :=
 (QU k (4 : Int) (b0.1, (b0.2.1, (b0.2.2.1, (b0.2.2.2.1, ()))))).bind fun t0 => (Q07 k t0.1).bind fun t1 => (Q0t k (t1.1.1, (t1.1.2.1, (t1.1.2.2.1, ())))).bind fun t2 => K (t2.1, ((t0.2.1.1, (t0.2.1.2.1, (t0.2.1.2.2.1, (t0.2.1.2.2.2.1, ())))), ()))
def Q0u (k : Nat) (b0 : QgW) : Option Q0u.τ := Q0u.c k b0 some
def Q0u.T : Q1F := ⟨[.ptr 0 []], [.dat QgR], 1⟩
def Q0u.os : List Out := [⟨.ret, [.freeze (.slot 0), .auto 1], ⟨[.dat (.int .u32)], [.dat QgR]⟩⟩]
def Q0u.sem (k : Nat) : QY := Q1U Q0u.T Q0u.os fun x => Q0u k x.1
noncomputable def Q0u.ctx (k : Nat) : Ctx := ⟨Try.prog, gam [(66, (QU.sem k)), (68, (Q07.sem k)), (99, (Q0t.sem k))]⟩
theorem Q0u.gok (k : Nat) : ∀ f, QG Try.prog f ((Q0u.ctx k).Γ f) := (Qq (QU.sem_ok k) (Qq (Q07.sem_ok k) (Qq (Q0t.sem_ok k) Q0e)))
def Q0u.ann (k : Nat) : Ann := .nil
theorem Q0u.body (k : Nat) : Q1S (Q0u.ctx k) Try.f64 (Func.code Try.f64) (Q0u.ann k) Q0u.T Q0u.os (fun x K => Q0u.c k x.1 K) := by
 intro ρ x K; kernel_rfl
theorem Q0u.sem_ok (k : Nat) : QG Try.prog 64 (Q0u.sem k) :=
 Q1c (C := Q0u.ctx k) (Q0u.gok k) Try.mix (c := Func.code Try.f64) (ann := Q0u.ann k) (T := Q0u.T) (os := Q0u.os) (fun x K => Q0u.c k x.1 K) Try.func64 (by kernel_rfl) (by kernel_rfl) Q3.nil (Q0u.body k) (by kernel_rfl) (by kernel_rfl) (by kernel_rfl)
def Q0h.c (k : Nat) {ρ : Type} (n : Int) (K : Int × Unit → Option ρ) : Option ρ :=
 bif (decide (n < (253 : Int))) then (K ((1 : Int), ())) else (bif (decide (n < (65536 : Int))) then (K ((3 : Int), ())) else (bif (decide (n < (4294967296 : Int))) then (K ((5 : Int), ())) else (K ((9 : Int), ()))))
def Q0h (k : Nat) (n : Int) : Option (Int × Unit) := Q0h.c k n some
def Q0h.tin : List Ty := [(.int .u64)]
def Q0h.tout : List Ty := [(.int .i64)]
def Q0h.sem (k : Nat) : QY := Q04 Q0h.tin Q0h.tout fun x => Q0h k x.1
noncomputable def Q0h.ctx (k : Nat) : Ctx := ⟨Try.prog, gam []⟩
theorem Q0h.gok (k : Nat) : ∀ f, QG Try.prog f ((Q0h.ctx k).Γ f) := Q0e
def Q0h.ann (k : Nat) : Ann := .nil
theorem Q0h.body (k : Nat) : Q0K (Q0h.ctx k) Try.f90 (Func.code Try.f90) (Q0h.ann k) Q0h.tin Q0h.tout (fun x K => Q0h.c k x.1 K) := by
 intro ρ x K; kernel_rfl
theorem Q0h.sem_ok (k : Nat) : QG Try.prog 90 (Q0h.sem k) :=
 QT (C := Q0h.ctx k) (Q0h.gok k) Try.mix (c := Func.code Try.f90) (ann := Q0h.ann k) (tin := Q0h.tin) (tout := Q0h.tout) (fun x K => Q0h.c k x.1 K) Try.func90 (by kernel_rfl) (by kernel_rfl) Q3.nil (Q0h.body k)
abbrev QE.p0.σ : Type := ByteArray × Int × Unit
abbrev QE.p0.τ : Type := (Int × Int × Int × Unit) ⊕ (ByteArray × Int × Unit)
def QE.p0.r (k : Nat) {ρ : Type} (x : QE.p0.σ) (K : QE.p0.τ → Option ρ) : Option ρ :=
 bif (decide (x.2.1 < (0 : Int))) then (K (.inl ((0 : Int), ((0 : Int), ((1 : Int), ()))))) else (let v0 : Int := (((ByteArray.size x.1) : Nat) : Int)
 bif (decide (x.2.1 > v0)) then (K (.inl ((0 : Int), ((0 : Int), ((1 : Int), ()))))) else (K (.inr (x.1, (x.2.1, ())))))
def QE.p0 (k : Nat) (x : QE.p0.σ) : Option QE.p0.τ := QE.p0.r k x some
def QE.p0.T : StT := ⟨.dat .str :: .dat (.int .i64) :: us 50, []⟩
def QE.p0.os : List Out := [⟨.ret, [.mask [4, 5, 6], .auto 0], ⟨us 4 ++ .dat (.int .u64) :: .dat (.int .i64) :: .dat (.int .i64) :: us 45, []⟩⟩, ⟨.normal, [.mask [0, 1], .auto 0], ⟨.dat .str :: .dat (.int .i64) :: us 50, []⟩⟩]
def QE.c (k : Nat) {ρ : Type} (s : ByteArray) (at_1 : Int) (K : Int × Int × Int × Unit → Option ρ) : Option ρ :=
 (QE.p0 k (s, (at_1, ()))).bind fun t1 => (match t1 with | .inl t2 => (K (t2.1, (t2.2.1, (t2.2.2.1, ())))) | .inr (t3) => (bif (decide (((0 : Int) ≤ t3.2.1) ∧ ((t3.2.1 ≤ (((ByteArray.size t3.1) : Nat) : Int)) ∧ ((((ByteArray.size t3.1) : Nat) : Int) ≤ (((ByteArray.size t3.1) : Nat) : Int))))) then (let v4 : ByteArray := (ByteArray.extract t3.1 (Int.toNat t3.2.1) (Int.toNat (((ByteArray.size t3.1) : Nat) : Int)))
 bif (Q25 v4 (⟨(List.toArray [])⟩ : ByteArray)) then (K ((0 : Int), ((0 : Int), ((4 : Int), ())))) else (bif (decide (((0 : Int) ≤ (0 : Int)) ∧ ((0 : Int) < (((ByteArray.size v4) : Nat) : Int)))) then (bif (decide ((Q1e v4 0) < (253 : Int))) then (bif (decide (((0 : Int) ≤ (0 : Int)) ∧ ((0 : Int) < (((ByteArray.size v4) : Nat) : Int)))) then (let v5 : Int := (IntKind.wrap IntKind.i64 (t3.2.1 + (1 : Int)))
 K ((IntKind.wrap IntKind.u64 (Q1e v4 0)), (v5, ((0 : Int), ())))) else (none)) else (bif (decide (((0 : Int) ≤ (0 : Int)) ∧ ((0 : Int) < (((ByteArray.size v4) : Nat) : Int)))) then (let v6 : Int := (IntKind.wrap IntKind.u8 ((Q1e v4 0) - (253 : Int)))
 bif (decide ((0 : Int) ≤ v6)) then (let v7 : Int := (Q27 IntKind.i64 (2 : Int) v6)
 let v8 : Int := (IntKind.wrap IntKind.i64 ((1 : Int) + v7))
 bif (decide ((((ByteArray.size v4) : Nat) : Int) < v8)) then (K ((0 : Int), ((0 : Int), ((4 : Int), ())))) else (bif (decide (((0 : Int) ≤ (1 : Int)) ∧ (((1 : Int) ≤ v8) ∧ (v8 ≤ (((ByteArray.size v4) : Nat) : Int))))) then ((Q0l k (ByteArray.extract v4 1 (Int.toNat v8))).bind fun t9 => (Q0h k t9.1).bind fun t10 => bif (t10.1 != v8) then (K ((0 : Int), ((0 : Int), ((6 : Int), ())))) else (let v11 : Int := (IntKind.wrap IntKind.i64 (t3.2.1 + v8))
 K (t9.1, (v11, ((0 : Int), ()))))) else (none))) else (none)) else (none))) else (none))) else (none)))
def QE (k : Nat) (s : ByteArray) (at_1 : Int) : Option (Int × Int × Int × Unit) := QE.c k s at_1 some
def QE.tin : List Ty := [.str, (.int .i64)]
def QE.tout : List Ty := [(.int .u64), (.int .i64), (.int .i64)]
def QE.sem (k : Nat) : QY := Q04 QE.tin QE.tout fun x => QE k x.1 x.2.1
noncomputable def QE.ctx (k : Nat) : Ctx := ⟨Try.prog, gam [(101, (Q0l.sem k)), (90, (Q0h.sem k))]⟩
theorem QE.gok (k : Nat) : ∀ f, QG Try.prog f ((QE.ctx k).Γ f) := (Qq (Q0l.sem_ok k) (Qq (Q0h.sem_ok k) Q0e))
theorem QE.p0.is (k : Nat) : Q1E (QE.ctx k) (QP (Func.code Try.f100) [1, 0]) (.nil) QE.p0.T QE.p0.os (QE.p0.r k) := by
 intro ρ x K; kernel_rfl
theorem QE.p0.ok (k : Nat) : StOK 0 Try.prog (QP (Func.code Try.f100) [1, 0]) (Qx QE.p0.T QE.p0.os (QE.p0 k)) :=
 Q1r (C := QE.ctx k) (T := QE.p0.T) (os := QE.p0.os) (QE.gok k) Try.mix (fun x K => QE.p0.r k x K) Q3.nil (by kernel_rfl) (by kernel_rfl) (QE.p0.is k)
def QE.ann (k : Nat) : Ann := .node [] none (.nil) (.node [] none (.node [] (some (Qx QE.p0.T QE.p0.os (QE.p0 k))) .nil .nil) (.nil))
theorem QE.body (k : Nat) : Q0K (QE.ctx k) Try.f100 (Func.code Try.f100) (QE.ann k) QE.tin QE.tout (fun x K => QE.c k x.1 x.2.1 K) := by
 intro ρ x K; kernel_rfl
theorem QE.sem_ok (k : Nat) : QG Try.prog 100 (QE.sem k) :=
 QT (C := QE.ctx k) (QE.gok k) Try.mix (c := Func.code Try.f100) (ann := QE.ann k) (tin := QE.tin) (tout := QE.tout) (fun x K => QE.c k x.1 x.2.1 K) Try.func100 (by kernel_rfl) (by kernel_rfl) (Q3.seq Q3.nil (Q3.seq (Q3.loop (by kernel_rfl) (QE.p0.ok k)) Q3.nil)) (QE.body k)
abbrev Qt.p0.σ : Type := Int × Int × Int × QgW × Unit
abbrev Qt.p0.τ : Type := (Int × Int × Int × QgW × Unit)
def Qt.p0.r (k : Nat) {ρ : Type} (x : Qt.p0.σ) (K : Qt.p0.τ → Option ρ) : Option ρ :=
 let v0 : Int := x.2.2.2.1.2.2.2.1
 bif (v0 == (0 : Int)) then (let v1 : Int := x.2.2.2.1.2.2.1
 let v2 : ByteArray := x.2.2.2.1.1
 bif (decide (v1 < (((ByteArray.size v2) : Nat) : Int))) then (let v3 : ByteArray := x.2.2.2.1.1
 let v4 : Int := x.2.2.2.1.2.2.1
 bif (decide (((0 : Int) ≤ v4) ∧ (v4 < (((ByteArray.size v3) : Nat) : Int)))) then (bif ((Q1e v3 (Int.toNat v4)) == (253 : Int)) then (K (x.1, (x.2.1, ((3 : Int), ((x.2.2.2.1.1, (x.2.2.2.1.2.1, (x.2.2.2.1.2.2.1, (x.2.2.2.1.2.2.2.1, ())))), ()))))) else (bif ((Q1e v3 (Int.toNat v4)) == (254 : Int)) then (K (x.1, (x.2.1, ((5 : Int), ((x.2.2.2.1.1, (x.2.2.2.1.2.1, (x.2.2.2.1.2.2.1, (x.2.2.2.1.2.2.2.1, ())))), ()))))) else (bif ((Q1e v3 (Int.toNat v4)) == (255 : Int)) then (K (x.1, (x.2.1, ((9 : Int), ((x.2.2.2.1.1, (x.2.2.2.1.2.1, (x.2.2.2.1.2.2.1, (x.2.2.2.1.2.2.2.1, ())))), ()))))) else (K (x.1, (x.2.1, (x.2.2.1, ((x.2.2.2.1.1, (x.2.2.2.1.2.1, (x.2.2.2.1.2.2.1, (x.2.2.2.1.2.2.2.1, ())))), ())))))))) else (none)) else (K (x.1, (x.2.1, (x.2.2.1, ((x.2.2.2.1.1, (x.2.2.2.1.2.1, (x.2.2.2.1.2.2.1, (x.2.2.2.1.2.2.2.1, ())))), ())))))) else (K (x.1, (x.2.1, (x.2.2.1, ((x.2.2.2.1.1, (x.2.2.2.1.2.1, (x.2.2.2.1.2.2.1, (x.2.2.2.1.2.2.2.1, ())))), ())))))
def Qt.p0 (k : Nat) (x : Qt.p0.σ) : Option Qt.p0.τ := Qt.p0.r k x some
def Qt.p0.T : StT := ⟨.ptr 0 [] :: .dat (.int .i64) :: .dat (.int .i64) :: us 4 ++ .dat (.int .i64) :: us 68, [.dat QgR]⟩
def Qt.p0.os : List Out := [⟨.normal, [.mask [0, 1, 2, 7], .auto 1], ⟨.ptr 0 [] :: .dat (.int .i64) :: .dat (.int .i64) :: us 4 ++ .dat (.int .i64) :: us 68, [.dat QgR]⟩⟩]
abbrev Qt.τ : Type := (Int × QgW × Unit)
def Qt.c (k : Nat) {ρ : Type} (most : Int) (e : Int) (b0 : QgW) (K : Qt.τ → Option ρ) : Option ρ :=
 (Qt.p0 k (most, (e, ((1 : Int), ((b0.1, (b0.2.1, (b0.2.2.1, (b0.2.2.2.1, ())))), ()))))).bind fun t5 => (QU k t5.2.2.1 (t5.2.2.2.1.1, (t5.2.2.2.1.2.1, (t5.2.2.2.1.2.2.1, (t5.2.2.2.1.2.2.2.1, ()))))).bind fun t6 => let v7 : Int := t6.2.1.2.2.2.1
 bif (v7 != (0 : Int)) then (K ((0 : Int), ((t6.2.1.1, (t6.2.1.2.1, (t6.2.1.2.2.1, (t6.2.1.2.2.2.1, ())))), ()))) else ((QE k t6.1 (0 : Int)).bind fun t8 => let v9 : Int := t8.1
 let v10 : Int := t8.2.1
 let v11 : Int := t8.2.2.1
 bif (v11 != (0 : Int)) then (K ((0 : Int), ((t6.2.1.1, (t6.2.1.2.1, (t6.2.1.2.2.1, (v11, ())))), ()))) else (let v12 : Int := (IntKind.wrap IntKind.u64 t5.1)
 bif (decide (v9 > v12)) then (K ((0 : Int), ((t6.2.1.1, (t6.2.1.2.1, (t6.2.1.2.2.1, (t5.2.1, ())))), ()))) else (K ((IntKind.wrap IntKind.i64 v9), ((t6.2.1.1, (t6.2.1.2.1, (t6.2.1.2.2.1, (t6.2.1.2.2.2.1, ())))), ())))))
def Qt (k : Nat) (most : Int) (e : Int) (b0 : QgW) : Option Qt.τ := Qt.c k most e b0 some
def Qt.T : Q1F := ⟨[.ptr 0 [], .dat (.int .i64), .dat (.int .i64)], [.dat QgR], 1⟩
def Qt.os : List Out := [⟨.ret, [.freeze (.slot 0), .auto 1], ⟨[.dat (.int .i64)], [.dat QgR]⟩⟩]
def Qt.sem (k : Nat) : QY := Q1U Qt.T Qt.os fun x => Qt k x.1 x.2.1 x.2.2.1
noncomputable def Qt.ctx (k : Nat) : Ctx := ⟨Try.prog, gam [(66, (QU.sem k)), (100, (QE.sem k))]⟩
theorem Qt.gok (k : Nat) : ∀ f, QG Try.prog f ((Qt.ctx k).Γ f) := (Qq (QU.sem_ok k) (Qq (QE.sem_ok k) Q0e))
theorem Qt.p0.is (k : Nat) : Q1E (Qt.ctx k) (QP (Func.code Try.f65) [1, 1, 0]) (.nil) Qt.p0.T Qt.p0.os (Qt.p0.r k) := by
 intro ρ x K; kernel_rfl
theorem Qt.p0.ok (k : Nat) : StOK 1 Try.prog (QP (Func.code Try.f65) [1, 1, 0]) (Qx Qt.p0.T Qt.p0.os (Qt.p0 k)) :=
 Q1r (C := Qt.ctx k) (T := Qt.p0.T) (os := Qt.p0.os) (Qt.gok k) Try.mix (fun x K => Qt.p0.r k x K) Q3.nil (by kernel_rfl) (by kernel_rfl) (Qt.p0.is k)
def Qt.ann (k : Nat) : Ann := .node [] none (.nil) (.node [] none (.nil) (.node [] none (.node [.mask [0, 1, 2, 7], .auto 1] (some (Qx Qt.p0.T Qt.p0.os (Qt.p0 k))) .nil .nil) (.nil)))
theorem Qt.body (k : Nat) : Q1S (Qt.ctx k) Try.f65 (Func.code Try.f65) (Qt.ann k) Qt.T Qt.os (fun x K => Qt.c k x.1 x.2.1 x.2.2.1 K) := by
 intro ρ x K; kernel_rfl
theorem Qt.sem_ok (k : Nat) : QG Try.prog 65 (Qt.sem k) :=
 Q1c (C := Qt.ctx k) (Qt.gok k) Try.mix (c := Func.code Try.f65) (ann := Qt.ann k) (T := Qt.T) (os := Qt.os) (fun x K => Qt.c k x.1 x.2.1 x.2.2.1 K) Try.func65 (by kernel_rfl) (by kernel_rfl) (Q3.seq Q3.nil (Q3.seq Q3.nil (Q3.seq (Q3.loop (by kernel_rfl) (Qt.p0.ok k)) Q3.nil))) (Qt.body k) (by kernel_rfl) (by kernel_rfl) (by kernel_rfl)
abbrev Q0b.τ : Type := (ByteArray × QgW × Unit)
def Q0b.c (k : Nat) {ρ : Type} (b0 : QgW) (K : Q0b.τ → Option ρ) : Option ρ :=
 (Qt k (520 : Int) (100 : Int) (b0.1, (b0.2.1, (b0.2.2.1, (b0.2.2.2.1, ()))))).bind fun t0 => (QU k t0.1 (t0.2.1.1, (t0.2.1.2.1, (t0.2.1.2.2.1, (t0.2.1.2.2.2.1, ()))))).bind fun t1 => K (t1.1, ((t1.2.1.1, (t1.2.1.2.1, (t1.2.1.2.2.1, (t1.2.1.2.2.2.1, ())))), ()))
def Q0b (k : Nat) (b0 : QgW) : Option Q0b.τ := Q0b.c k b0 some
def Q0b.T : Q1F := ⟨[.ptr 0 []], [.dat QgR], 1⟩
def Q0b.os : List Out := [⟨.ret, [.freeze (.slot 0), .auto 1], ⟨[.dat .str], [.dat QgR]⟩⟩]
def Q0b.sem (k : Nat) : QY := Q1U Q0b.T Q0b.os fun x => Q0b k x.1
noncomputable def Q0b.ctx (k : Nat) : Ctx := ⟨Try.prog, gam [(65, (Qt.sem k)), (66, (QU.sem k))]⟩
theorem Q0b.gok (k : Nat) : ∀ f, QG Try.prog f ((Q0b.ctx k).Γ f) := (Qq (Qt.sem_ok k) (Qq (QU.sem_ok k) Q0e))
def Q0b.ann (k : Nat) : Ann := .nil
theorem Q0b.body (k : Nat) : Q1S (Q0b.ctx k) Try.f67 (Func.code Try.f67) (Q0b.ann k) Q0b.T Q0b.os (fun x K => Q0b.c k x.1 K) := by
 intro ρ x K; kernel_rfl
theorem Q0b.sem_ok (k : Nat) : QG Try.prog 67 (Q0b.sem k) :=
 Q1c (C := Q0b.ctx k) (Q0b.gok k) Try.mix (c := Func.code Try.f67) (ann := Q0b.ann k) (T := Q0b.T) (os := Q0b.os) (fun x K => Q0b.c k x.1 K) Try.func67 (by kernel_rfl) (by kernel_rfl) Q3.nil (Q0b.body k) (by kernel_rfl) (by kernel_rfl) (by kernel_rfl)
abbrev Qn.p0.σ : Type := ByteArray × Int × QgX × Unit
abbrev Qn.p0.τ : Type := (Int × Int × QgX × Unit) ⊕ (ByteArray × Int × QgX × Unit)
def Qn.p0.r (k : Nat) {ρ : Type} (x : Qn.p0.σ) (K : Qn.p0.τ → Option ρ) : Option ρ :=
 bif (decide (x.2.1 < (0 : Int))) then (K (.inl ((0 : Int), ((1 : Int), (((0 : Int), ((), ((), ((0 : Int), ())))), ()))))) else (let v0 : Int := (((ByteArray.size x.1) : Nat) : Int)
 bif (decide (x.2.1 > v0)) then (K (.inl ((0 : Int), ((1 : Int), (((0 : Int), ((), ((), ((0 : Int), ())))), ()))))) else (K (.inr (x.1, (x.2.1, ((x.2.2.1.1, ((), ((), (x.2.2.1.2.2.2.1, ())))), ()))))))
def Qn.p0 (k : Nat) (x : Qn.p0.σ) : Option Qn.p0.τ := Qn.p0.r k x some
def Qn.p0.T : StT := ⟨.dat .str :: .dat (.int .i64) :: us 2 ++ .ptr 0 [] :: us 105, [.pair (.dat (.int .u32)) (.pair (.nils) (.pair (.nils) (.dat Qh1)))]⟩
def Qn.p0.os : List Out := [⟨.ret, [.mask [4, 5, 6], .auto 0], ⟨us 4 ++ .ptr 0 [] :: .dat (.int .i64) :: .dat (.int .i64) :: us 103, [.pair (.dat (.int .u32)) (.pair (.nils) (.pair (.nils) (.dat Qh1)))]⟩⟩, ⟨.normal, [.mask [0, 1, 4], .auto 0], ⟨.dat .str :: .dat (.int .i64) :: us 2 ++ .ptr 0 [] :: us 105, [.pair (.dat (.int .u32)) (.pair (.nils) (.pair (.nils) (.dat Qh1)))]⟩⟩]
abbrev Qn.p2.σ : Type := Int × QgX × QgW × QgX × QgS × Unit
abbrev Qn.p2.τ : Type := (Int × QgX × QgW × QgX × QgS × Unit) ⊕ QgG 
def Qn.p2.r (k : Nat) {ρ : Type} (x : Qn.p2.σ) (K : Qn.p2.τ → Option ρ) : Option ρ :=
 bif (decide (x.1 > (0 : Int))) then (let v6 : Int := x.2.2.1.2.2.2.1
 bif (v6 == (0 : Int)) then (K (.inl (x.1, ((x.2.1.1, ((), ((), (x.2.1.2.2.2.1, ())))), ((x.2.2.1.1, (x.2.2.1.2.1, (x.2.2.1.2.2.1, (x.2.2.1.2.2.2.1, ())))), ((x.2.2.2.1.1, ((), ((), (x.2.2.2.1.2.2.2.1, ())))), (x.2.2.2.2.1, ()))))))) else (K (.inr ((x.2.1.1, ((), ((), (x.2.1.2.2.2.1, ())))), ((x.2.2.1.1, (x.2.2.1.2.1, (x.2.2.1.2.2.1, (x.2.2.1.2.2.2.1, ())))), ((x.2.2.2.1.1, ((), ((), (x.2.2.2.1.2.2.2.1, ())))), (x.2.2.2.2.1, ()))))))) else (K (.inr ((x.2.1.1, ((), ((), (x.2.1.2.2.2.1, ())))), ((x.2.2.1.1, (x.2.2.1.2.1, (x.2.2.1.2.2.1, (x.2.2.1.2.2.2.1, ())))), ((x.2.2.2.1.1, ((), ((), (x.2.2.2.1.2.2.2.1, ())))), (x.2.2.2.2.1, ()))))))
def Qn.p2 (k : Nat) (x : Qn.p2.σ) : Option Qn.p2.τ := Qn.p2.r k x some
def Qn.p2.T : StT := ⟨us 4 ++ .ptr 0 [] :: us 2 ++ .ptr 1 [] :: .ptr 2 [] :: .dat (.int .i64) :: us 100, [.pair (.dat (.int .u32)) (.pair (.nils) (.pair (.nils) (.dat Qh1))), .dat QgR, .pair (.dat (.int .u32)) (.pair (.vsl 3) (.pair (.nils) (.dat Qh1))), .vec QgP]⟩
def Qn.p2.os : List Out := [⟨.normal, [.mask [4, 7, 8, 9], .auto 0], ⟨us 4 ++ .ptr 0 [] :: us 2 ++ .ptr 1 [] :: .ptr 2 [] :: .dat (.int .i64) :: us 100, [.pair (.dat (.int .u32)) (.pair (.nils) (.pair (.nils) (.dat Qh1))), .dat QgR, .pair (.dat (.int .u32)) (.pair (.vsl 3) (.pair (.nils) (.dat Qh1))), .vec QgP]⟩⟩, ⟨(.exit 0), [.mask [4, 7, 8], .auto 0], ⟨us 4 ++ .ptr 0 [] :: us 2 ++ .ptr 1 [] :: .ptr 2 [] :: us 101, [.pair (.dat (.int .u32)) (.pair (.nils) (.pair (.nils) (.dat Qh1))), .dat QgR, .pair (.dat (.int .u32)) (.pair (.vsl 3) (.pair (.nils) (.dat Qh1))), .vec QgP]⟩⟩]
abbrev Qn.l1.σ : Type := Int × QgX × QgW × QgX × QgS × Unit
abbrev Qn.l1.τ : Type := QgG 
def Qn.l1.r (k : Nat) {ρ : Type} (x : Qn.l1.σ) (kn : Qn.l1.σ → Option ρ) (ke : Qn.l1.τ → Option ρ) : Option ρ :=
 (Qn.p2 k (x.1, ((x.2.1.1, ((), ((), (x.2.1.2.2.2.1, ())))), ((x.2.2.1.1, (x.2.2.1.2.1, (x.2.2.1.2.2.1, (x.2.2.1.2.2.2.1, ())))), ((x.2.2.2.1.1, ((), ((), (x.2.2.2.1.2.2.2.1, ())))), (x.2.2.2.2.1, ())))))).bind fun t7 => (match t7 with | .inl t8 => ((QU k (32 : Int) (t8.2.2.1.1, (t8.2.2.1.2.1, (t8.2.2.1.2.2.1, (t8.2.2.1.2.2.2.1, ()))))).bind fun t9 => let v10 : Int := (((Min.min (List.length (QB t9.1)) 32) : Nat) : Int)
 (Q0u k (t9.2.1.1, (t9.2.1.2.1, (t9.2.1.2.2.1, (t9.2.1.2.2.2.1, ()))))).bind fun t11 => (Q0b k (t11.2.1.1, (t11.2.1.2.1, (t11.2.1.2.2.1, (t11.2.1.2.2.2.1, ()))))).bind fun t12 => (Q0u k (t12.2.1.1, (t12.2.1.2.1, (t12.2.1.2.2.1, (t12.2.1.2.2.2.1, ()))))).bind fun t13 => bif (Nat.ble (((List.length t8.2.2.2.2.1) + (List.length (List.set (List.replicate 1 (((List.replicate 32 (0 : Int)), ((0 : Int), ())), (ByteArray.empty, ((0 : Int), ())))) 0 (((Q2t (List.replicate 32 (0 : Int)) 0 (QB t9.1) (Min.min (List.length (QB t9.1)) 32)), (t11.1, ())), (t12.1, (t13.1, ())))))) * 64) 140737488355328) then (let v14 : Int := (IntKind.wrap IntKind.i64 (t8.1 - (1 : Int)))
 kn (v14, ((t8.2.1.1, ((), ((), (t8.2.1.2.2.2.1, ())))), ((t13.2.1.1, (t13.2.1.2.1, (t13.2.1.2.2.1, (t13.2.1.2.2.2.1, ())))), ((t8.2.2.2.1.1, ((), ((), (t8.2.2.2.1.2.2.2.1, ())))), ((t8.2.2.2.2.1 ++ (List.set (List.replicate 1 (((List.replicate 32 (0 : Int)), ((0 : Int), ())), (ByteArray.empty, ((0 : Int), ())))) 0 (((Q2t (List.replicate 32 (0 : Int)) 0 (QB t9.1) (Min.min (List.length (QB t9.1)) 32)), (t11.1, ())), (t12.1, (t13.1, ()))))), ())))))) else (none)) | .inr (t15) => (ke ((t15.1.1, ((), ((), (t15.1.2.2.2.1, ())))), ((t15.2.1.1, (t15.2.1.2.1, (t15.2.1.2.2.1, (t15.2.1.2.2.2.1, ())))), ((t15.2.2.1.1, ((), ((), (t15.2.2.1.2.2.2.1, ())))), (t15.2.2.2.1, ()))))))
def Qn.l1 (k : Nat) : Nat → Qn.l1.σ → Option Qn.l1.τ := Q0Q (Qn.l1.r k)
def Qn.l1.T : StT := ⟨us 4 ++ .ptr 0 [] :: us 2 ++ .ptr 1 [] :: .ptr 2 [] :: .dat (.int .i64) :: us 100, [.pair (.dat (.int .u32)) (.pair (.nils) (.pair (.nils) (.dat Qh1))), .dat QgR, .pair (.dat (.int .u32)) (.pair (.vsl 3) (.pair (.nils) (.dat Qh1))), .vec QgP]⟩
def Qn.l1.os : List Out := [⟨(.exit 0), [.mask [4, 7, 8], .auto 0], ⟨us 4 ++ .ptr 0 [] :: us 2 ++ .ptr 1 [] :: .ptr 2 [] :: us 101, [.pair (.dat (.int .u32)) (.pair (.nils) (.pair (.nils) (.dat Qh1))), .dat QgR, .pair (.dat (.int .u32)) (.pair (.vsl 3) (.pair (.nils) (.dat Qh1))), .vec QgP]⟩⟩]
abbrev Qn.p4.σ : Type := Int × QgX × QgW × QgX × QgS × QgZ × Unit
abbrev Qn.p4.τ : Type := (Int × QgX × QgW × QgX × QgS × QgZ × Unit) ⊕ QgD 
def Qn.p4.r (k : Nat) {ρ : Type} (x : Qn.p4.σ) (K : Qn.p4.τ → Option ρ) : Option ρ :=
 bif (decide (x.1 > (0 : Int))) then (let v18 : Int := x.2.2.1.2.2.2.1
 bif (v18 == (0 : Int)) then (K (.inl (x.1, ((x.2.1.1, ((), ((), (x.2.1.2.2.2.1, ())))), ((x.2.2.1.1, (x.2.2.1.2.1, (x.2.2.1.2.2.1, (x.2.2.1.2.2.2.1, ())))), ((x.2.2.2.1.1, ((), ((), (x.2.2.2.1.2.2.2.1, ())))), (x.2.2.2.2.1, (x.2.2.2.2.2.1, ())))))))) else (K (.inr ((x.2.1.1, ((), ((), (x.2.1.2.2.2.1, ())))), ((x.2.2.1.1, (x.2.2.1.2.1, (x.2.2.1.2.2.1, (x.2.2.1.2.2.2.1, ())))), ((x.2.2.2.1.1, ((), ((), (x.2.2.2.1.2.2.2.1, ())))), (x.2.2.2.2.1, (x.2.2.2.2.2.1, ())))))))) else (K (.inr ((x.2.1.1, ((), ((), (x.2.1.2.2.2.1, ())))), ((x.2.2.1.1, (x.2.2.1.2.1, (x.2.2.1.2.2.1, (x.2.2.1.2.2.2.1, ())))), ((x.2.2.2.1.1, ((), ((), (x.2.2.2.1.2.2.2.1, ())))), (x.2.2.2.2.1, (x.2.2.2.2.2.1, ())))))))
def Qn.p4 (k : Nat) (x : Qn.p4.σ) : Option Qn.p4.τ := Qn.p4.r k x some
def Qn.p4.T : StT := ⟨us 4 ++ .ptr 0 [] :: us 2 ++ .ptr 1 [] :: .ptr 2 [] :: us 2 ++ .dat (.int .i64) :: us 98, [.pair (.dat (.int .u32)) (.pair (.nils) (.pair (.nils) (.dat Qh1))), .dat QgR, .pair (.dat (.int .u32)) (.pair (.vsl 3) (.pair (.vsl 4) (.dat Qh1))), .vec QgP, .vec QgY]⟩
def Qn.p4.os : List Out := [⟨.normal, [.mask [4, 7, 8, 11], .auto 0], ⟨us 4 ++ .ptr 0 [] :: us 2 ++ .ptr 1 [] :: .ptr 2 [] :: us 2 ++ .dat (.int .i64) :: us 98, [.pair (.dat (.int .u32)) (.pair (.nils) (.pair (.nils) (.dat Qh1))), .dat QgR, .pair (.dat (.int .u32)) (.pair (.vsl 3) (.pair (.vsl 4) (.dat Qh1))), .vec QgP, .vec QgY]⟩⟩, ⟨(.exit 2), [.mask [4, 7, 8], .auto 0], ⟨us 4 ++ .ptr 0 [] :: us 2 ++ .ptr 1 [] :: .ptr 2 [] :: us 101, [.pair (.dat (.int .u32)) (.pair (.nils) (.pair (.nils) (.dat Qh1))), .dat QgR, .pair (.dat (.int .u32)) (.pair (.vsl 3) (.pair (.vsl 4) (.dat Qh1))), .vec QgP, .vec QgY]⟩⟩]
abbrev Qn.l3.σ : Type := Int × QgX × QgW × QgX × QgS × QgZ × Unit
abbrev Qn.l3.τ : Type := QgD 
def Qn.l3.r (k : Nat) {ρ : Type} (x : Qn.l3.σ) (kn : Qn.l3.σ → Option ρ) (ke : Qn.l3.τ → Option ρ) : Option ρ :=
 (Qn.p4 k (x.1, ((x.2.1.1, ((), ((), (x.2.1.2.2.2.1, ())))), ((x.2.2.1.1, (x.2.2.1.2.1, (x.2.2.1.2.2.1, (x.2.2.1.2.2.2.1, ())))), ((x.2.2.2.1.1, ((), ((), (x.2.2.2.1.2.2.2.1, ())))), (x.2.2.2.2.1, (x.2.2.2.2.2.1, ()))))))).bind fun t19 => (match t19 with | .inl t20 => ((QU k (8 : Int) (t20.2.2.1.1, (t20.2.2.1.2.1, (t20.2.2.1.2.2.1, (t20.2.2.1.2.2.2.1, ()))))).bind fun t21 => (Q07 k t21.1).bind fun t22 => (Q03 k (t22.1.1, (t22.1.2.1, (t22.1.2.2.1, ())))).bind fun t23 => (Q0b k (t21.2.1.1, (t21.2.1.2.1, (t21.2.1.2.2.1, (t21.2.1.2.2.2.1, ()))))).bind fun t24 => bif (Nat.ble (((List.length t20.2.2.2.2.2.1) + (List.length (List.set (List.replicate 1 ((0 : Int), (ByteArray.empty, ()))) 0 (t23.1, (t24.1, ()))))) * 24) 140737488355328) then (let v25 : Int := (IntKind.wrap IntKind.i64 (t20.1 - (1 : Int)))
 kn (v25, ((t20.2.1.1, ((), ((), (t20.2.1.2.2.2.1, ())))), ((t24.2.1.1, (t24.2.1.2.1, (t24.2.1.2.2.1, (t24.2.1.2.2.2.1, ())))), ((t20.2.2.2.1.1, ((), ((), (t20.2.2.2.1.2.2.2.1, ())))), (t20.2.2.2.2.1, ((t20.2.2.2.2.2.1 ++ (List.set (List.replicate 1 ((0 : Int), (ByteArray.empty, ()))) 0 (t23.1, (t24.1, ())))), ()))))))) else (none)) | .inr (t26) => (ke ((t26.1.1, ((), ((), (t26.1.2.2.2.1, ())))), ((t26.2.1.1, (t26.2.1.2.1, (t26.2.1.2.2.1, (t26.2.1.2.2.2.1, ())))), ((t26.2.2.1.1, ((), ((), (t26.2.2.1.2.2.2.1, ())))), (t26.2.2.2.1, (t26.2.2.2.2.1, ())))))))
def Qn.l3 (k : Nat) : Nat → Qn.l3.σ → Option Qn.l3.τ := Q0Q (Qn.l3.r k)
def Qn.l3.T : StT := ⟨us 4 ++ .ptr 0 [] :: us 2 ++ .ptr 1 [] :: .ptr 2 [] :: us 2 ++ .dat (.int .i64) :: us 98, [.pair (.dat (.int .u32)) (.pair (.nils) (.pair (.nils) (.dat Qh1))), .dat QgR, .pair (.dat (.int .u32)) (.pair (.vsl 3) (.pair (.vsl 4) (.dat Qh1))), .vec QgP, .vec QgY]⟩
def Qn.l3.os : List Out := [⟨(.exit 2), [.mask [4, 7, 8], .auto 0], ⟨us 4 ++ .ptr 0 [] :: us 2 ++ .ptr 1 [] :: .ptr 2 [] :: us 101, [.pair (.dat (.int .u32)) (.pair (.nils) (.pair (.nils) (.dat Qh1))), .dat QgR, .pair (.dat (.int .u32)) (.pair (.vsl 3) (.pair (.vsl 4) (.dat Qh1))), .vec QgP, .vec QgY]⟩⟩]
def Qn.c (k : Nat) {ρ : Type} (s : ByteArray) (at_1 : Int) (K : QgM × Int × Int × Unit → Option ρ) : Option ρ :=
 (Qn.p0 k (s, (at_1, (((0 : Int), ((), ((), ((0 : Int), ())))), ())))).bind fun t1 => (match t1 with | .inl t2 => (K ((t2.2.2.1.1, ([], ([], (t2.2.2.1.2.2.2.1, ())))), (t2.1, (t2.2.1, ())))) | .inr (t3) => ((Q0u k (t3.1, (t3.2.1, (t3.2.1, ((0 : Int), ()))))).bind fun t4 => (Qt k (4096 : Int) (5 : Int) (t4.2.1.1, (t4.2.1.2.1, (t4.2.1.2.2.1, (t4.2.1.2.2.2.1, ()))))).bind fun t5 => (Qn.l1 k k (t5.1, ((t3.2.2.1.1, ((), ((), (t3.2.2.1.2.2.2.1, ())))), ((t5.2.1.1, (t5.2.1.2.1, (t5.2.1.2.2.1, (t5.2.1.2.2.2.1, ())))), ((t4.1, ((), ((), ((0 : Int), ())))), ([], ())))))).bind fun t16 => (Qt k (4096 : Int) (5 : Int) (t16.2.1.1, (t16.2.1.2.1, (t16.2.1.2.2.1, (t16.2.1.2.2.2.1, ()))))).bind fun t17 => (Qn.l3 k k (t17.1, ((t16.1.1, ((), ((), (t16.1.2.2.2.1, ())))), ((t17.2.1.1, (t17.2.1.2.1, (t17.2.1.2.2.1, (t17.2.1.2.2.2.1, ())))), ((t16.2.2.1.1, ((), ((), (t16.2.2.1.2.2.2.1, ())))), (t16.2.2.2.1, ([], ()))))))).bind fun t27 => (Q0u k (t27.2.1.1, (t27.2.1.2.1, (t27.2.1.2.2.1, (t27.2.1.2.2.2.1, ()))))).bind fun t28 => let v29 : Int := t28.2.1.2.2.2.1
 bif (v29 != (0 : Int)) then (let v30 : Int := t28.2.1.2.2.2.1
 K (((0 : Int), ([], ([], ((0 : Int), ())))), ((0 : Int), (v30, ())))) else (let v31 : Int := t28.2.1.2.2.1
 K ((t27.2.2.1.1, (t27.2.2.2.1, (t27.2.2.2.2.1, (t28.1, ())))), (v31, ((0 : Int), ()))))))
def Qn (k : Nat) (s : ByteArray) (at_1 : Int) : Option (QgM × Int × Int × Unit) := Qn.c k s at_1 some
def Qn.tin : List Ty := [.str, (.int .i64)]
def Qn.tout : List Ty := [QgF, (.int .i64), (.int .i64)]
def Qn.sem (k : Nat) : QY := Q04 Qn.tin Qn.tout fun x => Qn k x.1 x.2.1
noncomputable def Qn.ctx (k : Nat) : Ctx := ⟨Try.prog, gam [(64, (Q0u.sem k)), (65, (Qt.sem k)), (66, (QU.sem k)), (67, (Q0b.sem k)), (68, (Q07.sem k)), (69, (Q03.sem k))]⟩
theorem Qn.gok (k : Nat) : ∀ f, QG Try.prog f ((Qn.ctx k).Γ f) := (Qq (Q0u.sem_ok k) (Qq (Qt.sem_ok k) (Qq (QU.sem_ok k) (Qq (Q0b.sem_ok k) (Qq (Q07.sem_ok k) (Qq (Q03.sem_ok k) Q0e))))))
theorem Qn.p0.is (k : Nat) : Q1E (Qn.ctx k) (QP (Func.code Try.f19) [1, 0]) (.nil) Qn.p0.T Qn.p0.os (Qn.p0.r k) := by
 intro ρ x K; kernel_rfl
theorem Qn.p0.ok (k : Nat) : StOK 0 Try.prog (QP (Func.code Try.f19) [1, 0]) (Qx Qn.p0.T Qn.p0.os (Qn.p0 k)) :=
 Q1r (C := Qn.ctx k) (T := Qn.p0.T) (os := Qn.p0.os) (Qn.gok k) Try.mix (fun x K => Qn.p0.r k x K) Q3.nil (by kernel_rfl) (by kernel_rfl) (Qn.p0.is k)
theorem Qn.p2.is (k : Nat) : Q1E (Qn.ctx k) (QP (Func.code Try.f19) [1, 1, 1, 1, 1, 0, 1, 0, 0, 0]) (.nil) Qn.p2.T Qn.p2.os (Qn.p2.r k) := by
 intro ρ x K; kernel_rfl
theorem Qn.p2.ok (k : Nat) : StOK 0 Try.prog (QP (Func.code Try.f19) [1, 1, 1, 1, 1, 0, 1, 0, 0, 0]) (Qx Qn.p2.T Qn.p2.os (Qn.p2 k)) :=
 Q1r (C := Qn.ctx k) (T := Qn.p2.T) (os := Qn.p2.os) (Qn.gok k) Try.mix (fun x K => Qn.p2.r k x K) Q3.nil (by kernel_rfl) (by kernel_rfl) (Qn.p2.is k)
theorem Qn.l1.round (k : Nat) : Q0L (Qn.ctx k) (QP (Func.code Try.f19) [1, 1, 1, 1, 1, 0, 1, 0, 0]) (.node [] none (.node [.mask [4, 7, 8, 9], .auto 0] (some (Qx Qn.p2.T Qn.p2.os (Qn.p2 k))) .nil .nil) (.nil)) Qn.l1.T [.mask [4, 7, 8, 9], .auto 0] Qn.l1.os (Qn.l1.r k) := by
 intro ρ x kn ke; kernel_rfl
theorem Qn.l1.ok (k : Nat) : StOK 0 Try.prog (.loop (QP (Func.code Try.f19) [1, 1, 1, 1, 1, 0, 1, 0, 0])) (Qx Qn.l1.T Qn.l1.os (Qn.l1 k k)) :=
 Q0M (C := Qn.ctx k) (Qn.gok k) Try.mix (Q3.seq (Q3.loop (by kernel_rfl) (Qn.p2.ok k)) Q3.nil) (by kernel_rfl) (by kernel_rfl) (by kernel_rfl) (Qn.l1.round k) k
theorem Qn.p4.is (k : Nat) : Q1E (Qn.ctx k) (QP (Func.code Try.f19) [1, 1, 1, 1, 1, 1, 0, 1, 0, 0, 0]) (.nil) Qn.p4.T Qn.p4.os (Qn.p4.r k) := by
 intro ρ x K; kernel_rfl
theorem Qn.p4.ok (k : Nat) : StOK 0 Try.prog (QP (Func.code Try.f19) [1, 1, 1, 1, 1, 1, 0, 1, 0, 0, 0]) (Qx Qn.p4.T Qn.p4.os (Qn.p4 k)) :=
 Q1r (C := Qn.ctx k) (T := Qn.p4.T) (os := Qn.p4.os) (Qn.gok k) Try.mix (fun x K => Qn.p4.r k x K) Q3.nil (by kernel_rfl) (by kernel_rfl) (Qn.p4.is k)
theorem Qn.l3.round (k : Nat) : Q0L (Qn.ctx k) (QP (Func.code Try.f19) [1, 1, 1, 1, 1, 1, 0, 1, 0, 0]) (.node [] none (.node [.mask [4, 7, 8, 11], .auto 0] (some (Qx Qn.p4.T Qn.p4.os (Qn.p4 k))) .nil .nil) (.nil)) Qn.l3.T [.mask [4, 7, 8, 11], .auto 0] Qn.l3.os (Qn.l3.r k) := by
 intro ρ x kn ke; kernel_rfl
theorem Qn.l3.ok (k : Nat) : StOK 0 Try.prog (.loop (QP (Func.code Try.f19) [1, 1, 1, 1, 1, 1, 0, 1, 0, 0])) (Qx Qn.l3.T Qn.l3.os (Qn.l3 k k)) :=
 Q0M (C := Qn.ctx k) (Qn.gok k) Try.mix (Q3.seq (Q3.loop (by kernel_rfl) (Qn.p4.ok k)) Q3.nil) (by kernel_rfl) (by kernel_rfl) (by kernel_rfl) (Qn.l3.round k) k
def Qn.ann (k : Nat) : Ann := .node [] none (.nil) (.node [] none (.node [.mask [0, 1, 4], .auto 0] (some (Qx Qn.p0.T Qn.p0.os (Qn.p0 k))) .nil .nil) (.node [] none (.nil) (.node [] none (.nil) (.node [] none (.nil) (.node [] none (.node [] none (.nil) (.node [] none (.node [.mask [4, 7, 8, 9], .auto 0, .own (.blk 2 [1]) QgP] (some (Qx Qn.l1.T Qn.l1.os (Qn.l1 k k))) .nil .nil) (.nil))) (.node [] none (.node [] none (.nil) (.node [] none (.node [.mask [4, 7, 8, 11], .auto 0, .own (.blk 2 [2]) QgY] (some (Qx Qn.l3.T Qn.l3.os (Qn.l3 k k))) .nil .nil) (.nil))) (.nil)))))))
theorem Qn.body (k : Nat) : Q0K (Qn.ctx k) Try.f19 (Func.code Try.f19) (Qn.ann k) Qn.tin Qn.tout (fun x K => Qn.c k x.1 x.2.1 K) := by
 intro ρ x K; kernel_rfl
theorem Qn.sem_ok (k : Nat) : QG Try.prog 19 (Qn.sem k) :=
 QT (C := Qn.ctx k) (Qn.gok k) Try.mix (c := Func.code Try.f19) (ann := Qn.ann k) (tin := Qn.tin) (tout := Qn.tout) (fun x K => Qn.c k x.1 x.2.1 K) Try.func19 (by kernel_rfl) (by kernel_rfl) (Q3.seq Q3.nil (Q3.seq (Q3.loop (by kernel_rfl) (Qn.p0.ok k)) (Q3.seq Q3.nil (Q3.seq Q3.nil (Q3.seq Q3.nil (Q3.seq (Q3.seq Q3.nil (Q3.block (Q3.loop (by kernel_rfl) (Qn.l1.ok k)))) (Q3.seq (Q3.seq Q3.nil (Q3.block (Q3.loop (by kernel_rfl) (Qn.l3.ok k)))) Q3.nil))))))) (Qn.body k)
def QK.c (k : Nat) {ρ : Type} (r : QgW) (n : Int) (K : QgW × ByteArray × Unit → Option ρ) : Option ρ :=
 let v0 : Int := r.2.2.2.1
 bif (v0 != (0 : Int)) then (K ((r.1, (r.2.1, (r.2.2.1, (r.2.2.2.1, ())))), ((⟨(List.toArray [])⟩ : ByteArray), ()))) else (let v1 : Int := r.2.2.1
 let v2 : Int := r.2.1
 let v3 : Int := (IntKind.wrap IntKind.i64 (v1 - v2))
 let v4 : Int := (IntKind.wrap IntKind.i64 (v3 + n))
 bif (decide (v4 > (4096 : Int))) then (K ((r.1, (r.2.1, (r.2.2.1, ((101 : Int), ())))), ((⟨(List.toArray [])⟩ : ByteArray), ()))) else (let v5 : ByteArray := r.1
 let v6 : Int := r.2.2.1
 let v7 : Int := (IntKind.wrap IntKind.i64 ((((ByteArray.size v5) : Nat) : Int) - v6))
 bif (decide (v7 < n)) then (K ((r.1, (r.2.1, (r.2.2.1, ((4 : Int), ())))), ((⟨(List.toArray [])⟩ : ByteArray), ()))) else (let v8 : Int := r.2.2.1
 let v9 : Int := (IntKind.wrap IntKind.i64 (v8 + n))
 let v10 : ByteArray := r.1
 let v11 : Int := (IntKind.wrap IntKind.i64 (v9 - n))
 bif (decide (((0 : Int) ≤ v11) ∧ ((v11 ≤ v9) ∧ (v9 ≤ (((ByteArray.size v10) : Nat) : Int))))) then (K ((r.1, (r.2.1, (v9, (r.2.2.2.1, ())))), ((ByteArray.extract v10 (Int.toNat v11) (Int.toNat v9)), ()))) else (none))))
def QK (k : Nat) (r : QgW) (n : Int) : Option (QgW × ByteArray × Unit) := QK.c k r n some
def QK.tin : List Ty := [QgR, (.int .i64)]
def QK.tout : List Ty := [QgR, .str]
def QK.sem (k : Nat) : QY := Q04 QK.tin QK.tout fun x => QK k x.1 x.2.1
noncomputable def QK.ctx (k : Nat) : Ctx := ⟨Try.prog, gam []⟩
theorem QK.gok (k : Nat) : ∀ f, QG Try.prog f ((QK.ctx k).Γ f) := Q0e
def QK.ann (k : Nat) : Ann := .nil
theorem QK.body (k : Nat) : Q0K (QK.ctx k) Try.f72 (Func.code Try.f72) (QK.ann k) QK.tin QK.tout (fun x K => QK.c k x.1 x.2.1 K) := by
 intro ρ x K; kernel_rfl
theorem QK.sem_ok (k : Nat) : QG Try.prog 72 (QK.sem k) :=
 QT (C := QK.ctx k) (QK.gok k) Try.mix (c := Func.code Try.f72) (ann := QK.ann k) (tin := QK.tin) (tout := QK.tout) (fun x K => QK.c k x.1 x.2.1 K) Try.func72 (by kernel_rfl) (by kernel_rfl) Q3.nil (QK.body k)
abbrev Qf.l0.σ : Type := ByteArray × Int × Int × QgW × QgW × Unit
abbrev Qf.l0.τ : Type := (Int × QgW × QgW × Unit)
def Qf.l0.r (k : Nat) {ρ : Type} (x : Qf.l0.σ) (kn : Qf.l0.σ → Option ρ) (ke : Qf.l0.τ → Option ρ) : Option ρ :=
 bif (decide (x.2.2.1 ≥ (0 : Int))) then (let v3 : Int := (IntKind.wrap IntKind.u64 ((256 : Int) * x.2.1))
 bif (decide (((0 : Int) ≤ x.2.2.1) ∧ (x.2.2.1 < (((ByteArray.size x.1) : Nat) : Int)))) then (let v4 : Int := (Q1e x.1 (Int.toNat x.2.2.1))
 let v5 : Int := (IntKind.wrap IntKind.u64 (v3 + (IntKind.wrap IntKind.u64 v4)))
 let v6 : Int := (IntKind.wrap IntKind.i64 (x.2.2.1 - (1 : Int)))
 kn (x.1, (v5, (v6, ((x.2.2.2.1.1, (x.2.2.2.1.2.1, (x.2.2.2.1.2.2.1, (x.2.2.2.1.2.2.2.1, ())))), ((x.2.2.2.2.1.1, (x.2.2.2.2.1.2.1, (x.2.2.2.2.1.2.2.1, (x.2.2.2.2.1.2.2.2.1, ())))), ())))))) else (none)) else (ke (x.2.1, ((x.2.2.2.1.1, (x.2.2.2.1.2.1, (x.2.2.2.1.2.2.1, (x.2.2.2.1.2.2.2.1, ())))), ((x.2.2.2.2.1.1, (x.2.2.2.2.1.2.1, (x.2.2.2.2.1.2.2.1, (x.2.2.2.2.1.2.2.2.1, ())))), ()))))
def Qf.l0 (k : Nat) : Nat → Qf.l0.σ → Option Qf.l0.τ := Q0Q (Qf.l0.r k)
def Qf.l0.T : StT := ⟨us 2 ++ .ptr 0 [] :: us 1 ++ .ptr 1 [] :: us 1 ++ .dat .str :: .dat (.int .u64) :: .dat (.int .i64) :: us 22, [.dat QgR, .dat QgR]⟩
def Qf.l0.os : List Out := [⟨(.exit 0), [.mask [2, 4, 7], .auto 0], ⟨us 2 ++ .ptr 0 [] :: us 1 ++ .ptr 1 [] :: us 2 ++ .dat (.int .u64) :: us 23, [.dat QgR, .dat QgR]⟩⟩]
def Qf.c (k : Nat) {ρ : Type} (r : QgW) (n : Int) (K : QgW × Int × Unit → Option ρ) : Option ρ :=
 (QK k (r.1, (r.2.1, (r.2.2.1, (r.2.2.2.1, ())))) n).bind fun t0 => let v1 : ByteArray := t0.2.1
 let v2 : Int := (IntKind.wrap IntKind.i64 ((((ByteArray.size v1) : Nat) : Int) - (1 : Int)))
 (Qf.l0 k k (v1, ((0 : Int), (v2, ((t0.1.1, (t0.1.2.1, (t0.1.2.2.1, (t0.1.2.2.2.1, ())))), (((⟨(List.toArray [])⟩ : ByteArray), ((0 : Int), ((0 : Int), ((0 : Int), ())))), ())))))).bind fun t7 => K ((t7.2.1.1, (t7.2.1.2.1, (t7.2.1.2.2.1, (t7.2.1.2.2.2.1, ())))), (t7.1, ()))
def Qf (k : Nat) (r : QgW) (n : Int) : Option (QgW × Int × Unit) := Qf.c k r n some
def Qf.tin : List Ty := [QgR, (.int .i64)]
def Qf.tout : List Ty := [QgR, (.int .u64)]
def Qf.sem (k : Nat) : QY := Q04 Qf.tin Qf.tout fun x => Qf k x.1 x.2.1
noncomputable def Qf.ctx (k : Nat) : Ctx := ⟨Try.prog, gam [(72, (QK.sem k))]⟩
theorem Qf.gok (k : Nat) : ∀ f, QG Try.prog f ((Qf.ctx k).Γ f) := (Qq (QK.sem_ok k) Q0e)
theorem Qf.l0.round (k : Nat) : Q0L (Qf.ctx k) (QP (Func.code Try.f70) [1, 1, 1, 0, 1, 0, 0]) (.nil) Qf.l0.T [.mask [2, 4, 6, 7, 8], .auto 0] Qf.l0.os (Qf.l0.r k) := by
 intro ρ x kn ke; kernel_rfl
theorem Qf.l0.ok (k : Nat) : StOK 0 Try.prog (.loop (QP (Func.code Try.f70) [1, 1, 1, 0, 1, 0, 0])) (Qx Qf.l0.T Qf.l0.os (Qf.l0 k k)) :=
 Q0M (C := Qf.ctx k) (Qf.gok k) Try.mix Q3.nil (by kernel_rfl) (by kernel_rfl) (by kernel_rfl) (Qf.l0.round k) k
def Qf.ann (k : Nat) : Ann := .node [] none (.nil) (.node [] none (.nil) (.node [] none (.nil) (.node [] none (.node [] none (.nil) (.node [] none (.node [.mask [2, 4, 6, 7, 8], .auto 0] (some (Qx Qf.l0.T Qf.l0.os (Qf.l0 k k))) .nil .nil) (.nil))) (.nil))))
theorem Qf.body (k : Nat) : Q0K (Qf.ctx k) Try.f70 (Func.code Try.f70) (Qf.ann k) Qf.tin Qf.tout (fun x K => Qf.c k x.1 x.2.1 K) := by
 intro ρ x K; kernel_rfl
theorem Qf.sem_ok (k : Nat) : QG Try.prog 70 (Qf.sem k) :=
 QT (C := Qf.ctx k) (Qf.gok k) Try.mix (c := Func.code Try.f70) (ann := Qf.ann k) (tin := Qf.tin) (tout := Qf.tout) (fun x K => Qf.c k x.1 x.2.1 K) Try.func70 (by kernel_rfl) (by kernel_rfl) (Q3.seq Q3.nil (Q3.seq Q3.nil (Q3.seq Q3.nil (Q3.seq (Q3.seq Q3.nil (Q3.block (Q3.loop (by kernel_rfl) (Qf.l0.ok k)))) Q3.nil)))) (Qf.body k)
abbrev Qo.l0.σ : Type := Int × Int × Int × (List Int) × Unit
abbrev Qo.l0.τ : Type := ((List Int) × Unit)
def Qo.l0.r (k : Nat) {ρ : Type} (x : Qo.l0.σ) (kn : Qo.l0.σ → Option ρ) (ke : Qo.l0.τ → Option ρ) : Option ρ :=
 bif (decide (x.2.2.1 < x.2.1)) then (let v0 : Int := (Int.tmod x.1 (256 : Int))
 bif (Nat.ble (((List.length x.2.2.2.1) + (List.length (List.set (List.replicate 1 (0 : Int)) 0 (IntKind.wrap IntKind.u8 v0)))) * 1) 140737488355328) then (let v1 : Int := (IntKind.wrap IntKind.u64 (Int.tdiv x.1 (256 : Int)))
 let v2 : Int := (IntKind.wrap IntKind.i64 (x.2.2.1 + (1 : Int)))
 kn (v1, (x.2.1, (v2, ((x.2.2.2.1 ++ (List.set (List.replicate 1 (0 : Int)) 0 (IntKind.wrap IntKind.u8 v0))), ()))))) else (none)) else (ke (x.2.2.2.1, ()))
def Qo.l0 (k : Nat) : Nat → Qo.l0.σ → Option Qo.l0.τ := Q0Q (Qo.l0.r k)
def Qo.l0.T : StT := ⟨.dat (.int .u64) :: .dat (.int .i64) :: us 3 ++ .vsl 0 :: .dat (.int .i64) :: us 16, [.vec (.int .u8)]⟩
def Qo.l0.os : List Out := [⟨(.exit 0), [.mask [5], .auto 0], ⟨us 5 ++ .vsl 0 :: us 17, [.vec (.int .u8)]⟩⟩]
def Qo.c (k : Nat) {ρ : Type} (n : Int) (bytes : Int) (K : ByteArray × Unit → Option ρ) : Option ρ :=
 (Qo.l0 k k (n, (bytes, ((0 : Int), ((List.replicate 0 (0 : Int)), ()))))).bind fun t3 => K ((bytesOf t3.1), ())
def Qo (k : Nat) (n : Int) (bytes : Int) : Option (ByteArray × Unit) := Qo.c k n bytes some
def Qo.tin : List Ty := [(.int .u64), (.int .i64)]
def Qo.tout : List Ty := [.str]
def Qo.sem (k : Nat) : QY := Q04 Qo.tin Qo.tout fun x => Qo k x.1 x.2.1
noncomputable def Qo.ctx (k : Nat) : Ctx := ⟨Try.prog, gam []⟩
theorem Qo.gok (k : Nat) : ∀ f, QG Try.prog f ((Qo.ctx k).Γ f) := Q0e
theorem Qo.l0.round (k : Nat) : Q0L (Qo.ctx k) (QP (Func.code Try.f92) [1, 1, 0, 1, 0, 0]) (.nil) Qo.l0.T [.mask [0, 1, 5, 6], .auto 0] Qo.l0.os (Qo.l0.r k) := by
 intro ρ x kn ke; kernel_rfl
theorem Qo.l0.ok (k : Nat) : StOK 0 Try.prog (.loop (QP (Func.code Try.f92) [1, 1, 0, 1, 0, 0])) (Qx Qo.l0.T Qo.l0.os (Qo.l0 k k)) :=
 Q0M (C := Qo.ctx k) (Qo.gok k) Try.mix Q3.nil (by kernel_rfl) (by kernel_rfl) (by kernel_rfl) (Qo.l0.round k) k
def Qo.ann (k : Nat) : Ann := .node [] none (.nil) (.node [] none (.nil) (.node [] none (.node [] none (.nil) (.node [] none (.node [.mask [0, 1, 5, 6], .auto 0] (some (Qx Qo.l0.T Qo.l0.os (Qo.l0 k k))) .nil .nil) (.nil))) (.nil)))
theorem Qo.body (k : Nat) : Q0K (Qo.ctx k) Try.f92 (Func.code Try.f92) (Qo.ann k) Qo.tin Qo.tout (fun x K => Qo.c k x.1 x.2.1 K) := by
 intro ρ x K; kernel_rfl
theorem Qo.sem_ok (k : Nat) : QG Try.prog 92 (Qo.sem k) :=
 QT (C := Qo.ctx k) (Qo.gok k) Try.mix (c := Func.code Try.f92) (ann := Qo.ann k) (tin := Qo.tin) (tout := Qo.tout) (fun x K => Qo.c k x.1 x.2.1 K) Try.func92 (by kernel_rfl) (by kernel_rfl) (Q3.seq Q3.nil (Q3.seq Q3.nil (Q3.seq (Q3.seq Q3.nil (Q3.block (Q3.loop (by kernel_rfl) (Qo.l0.ok k)))) Q3.nil))) (Qo.body k)
def QS.c (k : Nat) {ρ : Type} (n : Int) (K : ByteArray × Unit → Option ρ) : Option ρ :=
 bif (decide (n < (253 : Int))) then ((Qo k n (1 : Int)).bind fun t0 => K (t0.1, ())) else (bif (decide (n < (65536 : Int))) then ((Qo k n (2 : Int)).bind fun t1 => bif (Nat.ble (1 + (ByteArray.size t1.1)) 9223372036854775807) then (let v2 : ByteArray := ((⟨(List.toArray [253])⟩ : ByteArray) ++ t1.1)
 K (v2, ())) else (none)) else (bif (decide (n < (4294967296 : Int))) then ((Qo k n (4 : Int)).bind fun t3 => bif (Nat.ble (1 + (ByteArray.size t3.1)) 9223372036854775807) then (let v4 : ByteArray := ((⟨(List.toArray [254])⟩ : ByteArray) ++ t3.1)
 K (v4, ())) else (none)) else ((Qo k n (8 : Int)).bind fun t5 => bif (Nat.ble (1 + (ByteArray.size t5.1)) 9223372036854775807) then (let v6 : ByteArray := ((⟨(List.toArray [255])⟩ : ByteArray) ++ t5.1)
 K (v6, ())) else (none))))
def QS (k : Nat) (n : Int) : Option (ByteArray × Unit) := QS.c k n some
def QS.tin : List Ty := [(.int .u64)]
def QS.tout : List Ty := [.str]
def QS.sem (k : Nat) : QY := Q04 QS.tin QS.tout fun x => QS k x.1
noncomputable def QS.ctx (k : Nat) : Ctx := ⟨Try.prog, gam [(92, (Qo.sem k))]⟩
theorem QS.gok (k : Nat) : ∀ f, QG Try.prog f ((QS.ctx k).Γ f) := (Qq (Qo.sem_ok k) Q0e)
def QS.ann (k : Nat) : Ann := .nil
theorem QS.body (k : Nat) : Q0K (QS.ctx k) Try.f93 (Func.code Try.f93) (QS.ann k) QS.tin QS.tout (fun x K => QS.c k x.1 K) := by
 intro ρ x K; kernel_rfl
theorem QS.sem_ok (k : Nat) : QG Try.prog 93 (QS.sem k) :=
 QT (C := QS.ctx k) (QS.gok k) Try.mix (c := Func.code Try.f93) (ann := QS.ann k) (tin := QS.tin) (tout := QS.tout) (fun x K => QS.c k x.1 K) Try.func93 (by kernel_rfl) (by kernel_rfl) Q3.nil (QS.body k)
abbrev Q7.p0.σ : Type := Int × Int × Int × Int × Int × QgW × QgW × QgW × Unit
abbrev Q7.p0.τ : Type := QgK 
def Q7.p0.r (k : Nat) {ρ : Type} (x : Q7.p0.σ) (K : Q7.p0.τ → Option ρ) : Option ρ :=
 bif (x.2.2.1 == (253 : Int)) then (K (x.1, (x.2.1, (x.2.2.2.1, ((2 : Int), ((x.2.2.2.2.2.1.1, (x.2.2.2.2.2.1.2.1, (x.2.2.2.2.2.1.2.2.1, (x.2.2.2.2.2.1.2.2.2.1, ())))), ((x.2.2.2.2.2.2.1.1, (x.2.2.2.2.2.2.1.2.1, (x.2.2.2.2.2.2.1.2.2.1, (x.2.2.2.2.2.2.1.2.2.2.1, ())))), ((x.2.2.2.2.2.2.2.1.1, (x.2.2.2.2.2.2.2.1.2.1, (x.2.2.2.2.2.2.2.1.2.2.1, (x.2.2.2.2.2.2.2.1.2.2.2.1, ())))), ())))))))) else (bif (x.2.2.1 == (254 : Int)) then (K (x.1, (x.2.1, (x.2.2.2.1, ((4 : Int), ((x.2.2.2.2.2.1.1, (x.2.2.2.2.2.1.2.1, (x.2.2.2.2.2.1.2.2.1, (x.2.2.2.2.2.1.2.2.2.1, ())))), ((x.2.2.2.2.2.2.1.1, (x.2.2.2.2.2.2.1.2.1, (x.2.2.2.2.2.2.1.2.2.1, (x.2.2.2.2.2.2.1.2.2.2.1, ())))), ((x.2.2.2.2.2.2.2.1.1, (x.2.2.2.2.2.2.2.1.2.1, (x.2.2.2.2.2.2.2.1.2.2.1, (x.2.2.2.2.2.2.2.1.2.2.2.1, ())))), ())))))))) else (bif (x.2.2.1 == (255 : Int)) then (K (x.1, (x.2.1, (x.2.2.2.1, ((8 : Int), ((x.2.2.2.2.2.1.1, (x.2.2.2.2.2.1.2.1, (x.2.2.2.2.2.1.2.2.1, (x.2.2.2.2.2.1.2.2.2.1, ())))), ((x.2.2.2.2.2.2.1.1, (x.2.2.2.2.2.2.1.2.1, (x.2.2.2.2.2.2.1.2.2.1, (x.2.2.2.2.2.2.1.2.2.2.1, ())))), ((x.2.2.2.2.2.2.2.1.1, (x.2.2.2.2.2.2.2.1.2.1, (x.2.2.2.2.2.2.2.1.2.2.1, (x.2.2.2.2.2.2.2.1.2.2.2.1, ())))), ())))))))) else (K (x.1, (x.2.1, (x.2.2.2.1, (x.2.2.2.2.1, ((x.2.2.2.2.2.1.1, (x.2.2.2.2.2.1.2.1, (x.2.2.2.2.2.1.2.2.1, (x.2.2.2.2.2.1.2.2.2.1, ())))), ((x.2.2.2.2.2.2.1.1, (x.2.2.2.2.2.2.1.2.1, (x.2.2.2.2.2.2.1.2.2.1, (x.2.2.2.2.2.2.1.2.2.2.1, ())))), ((x.2.2.2.2.2.2.2.1.1, (x.2.2.2.2.2.2.2.1.2.1, (x.2.2.2.2.2.2.2.1.2.2.1, (x.2.2.2.2.2.2.2.1.2.2.2.1, ())))), ()))))))))))
def Q7.p0 (k : Nat) (x : Q7.p0.σ) : Option Q7.p0.τ := Q7.p0.r k x some
def Q7.p0.T : StT := ⟨us 1 ++ .dat (.int .i64) :: .dat (.int .i64) :: .ptr 0 [] :: us 2 ++ .ptr 1 [] :: us 1 ++ .ptr 2 [] :: .dat (.int .u64) :: .dat (.int .u64) :: .dat (.int .i64) :: us 47, [.dat QgR, .dat QgR, .dat QgR]⟩
def Q7.p0.os : List Out := [⟨.normal, [.mask [1, 2, 3, 6, 8, 10, 11], .auto 0], ⟨us 1 ++ .dat (.int .i64) :: .dat (.int .i64) :: .ptr 0 [] :: us 2 ++ .ptr 1 [] :: us 1 ++ .ptr 2 [] :: us 1 ++ .dat (.int .u64) :: .dat (.int .i64) :: us 47, [.dat QgR, .dat QgR, .dat QgR]⟩⟩]
abbrev Q7.p1.σ : Type := Int × Int × Int × Int × QgW × QgW × QgW × Unit
abbrev Q7.p1.τ : Type := QgK 
def Q7.p1.r (k : Nat) {ρ : Type} (x : Q7.p1.σ) (K : Q7.p1.τ → Option ρ) : Option ρ :=
 bif (decide (x.2.2.2.1 > (0 : Int))) then ((Qf k (x.2.2.2.2.1.1, (x.2.2.2.2.1.2.1, (x.2.2.2.2.1.2.2.1, (x.2.2.2.2.1.2.2.2.1, ())))) x.2.2.2.1).bind fun t3 => let v4 : Int := t3.2.1
 K (x.1, (x.2.1, (v4, (x.2.2.2.1, ((t3.1.1, (t3.1.2.1, (t3.1.2.2.1, (t3.1.2.2.2.1, ())))), ((x.2.2.2.2.2.1.1, (x.2.2.2.2.2.1.2.1, (x.2.2.2.2.2.1.2.2.1, (x.2.2.2.2.2.1.2.2.2.1, ())))), ((x.2.2.2.2.2.2.1.1, (x.2.2.2.2.2.2.1.2.1, (x.2.2.2.2.2.2.1.2.2.1, (x.2.2.2.2.2.2.1.2.2.2.1, ())))), ())))))))) else (K (x.1, (x.2.1, (x.2.2.1, (x.2.2.2.1, ((x.2.2.2.2.1.1, (x.2.2.2.2.1.2.1, (x.2.2.2.2.1.2.2.1, (x.2.2.2.2.1.2.2.2.1, ())))), ((x.2.2.2.2.2.1.1, (x.2.2.2.2.2.1.2.1, (x.2.2.2.2.2.1.2.2.1, (x.2.2.2.2.2.1.2.2.2.1, ())))), ((x.2.2.2.2.2.2.1.1, (x.2.2.2.2.2.2.1.2.1, (x.2.2.2.2.2.2.1.2.2.1, (x.2.2.2.2.2.2.1.2.2.2.1, ())))), ()))))))))
def Q7.p1 (k : Nat) (x : Q7.p1.σ) : Option Q7.p1.τ := Q7.p1.r k x some
def Q7.p1.T : StT := ⟨us 1 ++ .dat (.int .i64) :: .dat (.int .i64) :: .ptr 0 [] :: us 2 ++ .ptr 1 [] :: us 1 ++ .ptr 2 [] :: us 1 ++ .dat (.int .u64) :: .dat (.int .i64) :: us 47, [.dat QgR, .dat QgR, .dat QgR]⟩
def Q7.p1.os : List Out := [⟨.normal, [.mask [1, 2, 3, 6, 8, 10, 11], .auto 0], ⟨us 1 ++ .dat (.int .i64) :: .dat (.int .i64) :: .ptr 0 [] :: us 2 ++ .ptr 1 [] :: us 1 ++ .ptr 2 [] :: us 1 ++ .dat (.int .u64) :: .dat (.int .i64) :: us 47, [.dat QgR, .dat QgR, .dat QgR]⟩⟩]
def Q7.c (k : Nat) {ρ : Type} (r : QgW) (most : Int) (e : Int) (K : QgW × Int × Unit → Option ρ) : Option ρ :=
 (Qf k (r.1, (r.2.1, (r.2.2.1, (r.2.2.2.1, ())))) (1 : Int)).bind fun t0 => let v1 : Int := t0.2.1
 (Q7.p0 k (most, (e, (v1, (v1, ((0 : Int), ((t0.1.1, (t0.1.2.1, (t0.1.2.2.1, (t0.1.2.2.2.1, ())))), (((⟨(List.toArray [])⟩ : ByteArray), ((0 : Int), ((0 : Int), ((0 : Int), ())))), ((r.1, (r.2.1, (r.2.2.1, (r.2.2.2.1, ())))), ()))))))))).bind fun t2 => (Q7.p1 k (t2.1, (t2.2.1, (t2.2.2.1, (t2.2.2.2.1, ((t2.2.2.2.2.1.1, (t2.2.2.2.2.1.2.1, (t2.2.2.2.2.1.2.2.1, (t2.2.2.2.2.1.2.2.2.1, ())))), ((t2.2.2.2.2.2.1.1, (t2.2.2.2.2.2.1.2.1, (t2.2.2.2.2.2.1.2.2.1, (t2.2.2.2.2.2.1.2.2.2.1, ())))), ((t2.2.2.2.2.2.2.1.1, (t2.2.2.2.2.2.2.1.2.1, (t2.2.2.2.2.2.2.1.2.2.1, (t2.2.2.2.2.2.2.1.2.2.2.1, ())))), ())))))))).bind fun t5 => let v6 : Int := t5.2.2.2.2.1.2.2.2.1
 bif (v6 != (0 : Int)) then (let v7 : Int := t5.2.2.2.2.2.2.1.2.2.1
 K ((t5.2.2.2.2.1.1, (t5.2.2.2.2.1.2.1, (v7, (t5.2.2.2.2.1.2.2.2.1, ())))), ((0 : Int), ()))) else ((QS k t5.2.2.1).bind fun t8 => let v9 : Int := (((ByteArray.size t8.1) : Nat) : Int)
 let v10 : Int := (IntKind.wrap IntKind.i64 ((1 : Int) + t5.2.2.2.1))
 bif (v9 != v10) then (K ((t5.2.2.2.2.1.1, (t5.2.2.2.2.1.2.1, (t5.2.2.2.2.1.2.2.1, ((6 : Int), ())))), ((0 : Int), ()))) else (let v11 : Int := (IntKind.wrap IntKind.u64 t5.1)
 bif (decide (t5.2.2.1 > v11)) then (K ((t5.2.2.2.2.1.1, (t5.2.2.2.2.1.2.1, (t5.2.2.2.2.1.2.2.1, (t5.2.1, ())))), ((0 : Int), ()))) else (let v12 : Int := (IntKind.wrap IntKind.i64 t5.2.2.1)
 K ((t5.2.2.2.2.1.1, (t5.2.2.2.2.1.2.1, (t5.2.2.2.2.1.2.2.1, (t5.2.2.2.2.1.2.2.2.1, ())))), (v12, ())))))
def Q7 (k : Nat) (r : QgW) (most : Int) (e : Int) : Option (QgW × Int × Unit) := Q7.c k r most e some
def Q7.tin : List Ty := [QgR, (.int .i64), (.int .i64)]
def Q7.tout : List Ty := [QgR, (.int .i64)]
def Q7.sem (k : Nat) : QY := Q04 Q7.tin Q7.tout fun x => Q7 k x.1 x.2.1 x.2.2.1
noncomputable def Q7.ctx (k : Nat) : Ctx := ⟨Try.prog, gam [(70, (Qf.sem k)), (93, (QS.sem k))]⟩
theorem Q7.gok (k : Nat) : ∀ f, QG Try.prog f ((Q7.ctx k).Γ f) := (Qq (Qf.sem_ok k) (Qq (QS.sem_ok k) Q0e))
theorem Q7.p0.is (k : Nat) : Q1E (Q7.ctx k) (QP (Func.code Try.f71) [1, 1, 1, 1, 1, 0]) (.nil) Q7.p0.T Q7.p0.os (Q7.p0.r k) := by
 intro ρ x K; kernel_rfl
theorem Q7.p0.ok (k : Nat) : StOK 0 Try.prog (QP (Func.code Try.f71) [1, 1, 1, 1, 1, 0]) (Qx Q7.p0.T Q7.p0.os (Q7.p0 k)) :=
 Q1r (C := Q7.ctx k) (T := Q7.p0.T) (os := Q7.p0.os) (Q7.gok k) Try.mix (fun x K => Q7.p0.r k x K) Q3.nil (by kernel_rfl) (by kernel_rfl) (Q7.p0.is k)
theorem Q7.p1.is (k : Nat) : Q1E (Q7.ctx k) (QP (Func.code Try.f71) [1, 1, 1, 1, 1, 1, 0]) (.nil) Q7.p1.T Q7.p1.os (Q7.p1.r k) := by
 intro ρ x K; kernel_rfl
theorem Q7.p1.ok (k : Nat) : StOK 0 Try.prog (QP (Func.code Try.f71) [1, 1, 1, 1, 1, 1, 0]) (Qx Q7.p1.T Q7.p1.os (Q7.p1 k)) :=
 Q1r (C := Q7.ctx k) (T := Q7.p1.T) (os := Q7.p1.os) (Q7.gok k) Try.mix (fun x K => Q7.p1.r k x K) Q3.nil (by kernel_rfl) (by kernel_rfl) (Q7.p1.is k)
def Q7.ann (k : Nat) : Ann := .node [] none (.nil) (.node [] none (.nil) (.node [] none (.nil) (.node [] none (.nil) (.node [] none (.nil) (.node [] none (.node [.mask [1, 2, 3, 6, 8, 9, 10, 11], .auto 0] (some (Qx Q7.p0.T Q7.p0.os (Q7.p0 k))) .nil .nil) (.node [] none (.node [.mask [1, 2, 3, 6, 8, 10, 11], .auto 0] (some (Qx Q7.p1.T Q7.p1.os (Q7.p1 k))) .nil .nil) (.nil)))))))
theorem Q7.body (k : Nat) : Q0K (Q7.ctx k) Try.f71 (Func.code Try.f71) (Q7.ann k) Q7.tin Q7.tout (fun x K => Q7.c k x.1 x.2.1 x.2.2.1 K) := by
 intro ρ x K; kernel_rfl
theorem Q7.sem_ok (k : Nat) : QG Try.prog 71 (Q7.sem k) :=
 QT (C := Q7.ctx k) (Q7.gok k) Try.mix (c := Func.code Try.f71) (ann := Q7.ann k) (tin := Q7.tin) (tout := Q7.tout) (fun x K => Q7.c k x.1 x.2.1 x.2.2.1 K) Try.func71 (by kernel_rfl) (by kernel_rfl) (Q3.seq Q3.nil (Q3.seq Q3.nil (Q3.seq Q3.nil (Q3.seq Q3.nil (Q3.seq Q3.nil (Q3.seq (Q3.loop (by kernel_rfl) (Q7.p0.ok k)) (Q3.seq (Q3.loop (by kernel_rfl) (Q7.p1.ok k)) Q3.nil))))))) (Q7.body k)
abbrev Q0.p0.σ : Type := ByteArray × Int × QgX × Unit
abbrev Q0.p0.τ : Type := (Int × Int × QgX × Unit) ⊕ (ByteArray × Int × QgX × Unit)
def Q0.p0.r (k : Nat) {ρ : Type} (x : Q0.p0.σ) (K : Q0.p0.τ → Option ρ) : Option ρ :=
 bif (decide (x.2.1 < (0 : Int))) then (K (.inl ((0 : Int), ((1 : Int), (((0 : Int), ((), ((), ((0 : Int), ())))), ()))))) else (let v0 : Int := (((ByteArray.size x.1) : Nat) : Int)
 bif (decide (x.2.1 > v0)) then (K (.inl ((0 : Int), ((1 : Int), (((0 : Int), ((), ((), ((0 : Int), ())))), ()))))) else (K (.inr (x.1, (x.2.1, ((x.2.2.1.1, ((), ((), (x.2.2.1.2.2.2.1, ())))), ()))))))
def Q0.p0 (k : Nat) (x : Q0.p0.σ) : Option Q0.p0.τ := Q0.p0.r k x some
def Q0.p0.T : StT := ⟨.dat .str :: .dat (.int .i64) :: us 2 ++ .ptr 0 [] :: us 161, [.pair (.dat (.int .u32)) (.pair (.nils) (.pair (.nils) (.dat Qh1)))]⟩
def Q0.p0.os : List Out := [⟨.ret, [.mask [4, 5, 6], .auto 0], ⟨us 4 ++ .ptr 0 [] :: .dat (.int .i64) :: .dat (.int .i64) :: us 159, [.pair (.dat (.int .u32)) (.pair (.nils) (.pair (.nils) (.dat Qh1)))]⟩⟩, ⟨.normal, [.mask [0, 1, 4], .auto 0], ⟨.dat .str :: .dat (.int .i64) :: us 2 ++ .ptr 0 [] :: us 161, [.pair (.dat (.int .u32)) (.pair (.nils) (.pair (.nils) (.dat Qh1)))]⟩⟩]
abbrev Q0.p2.σ : Type := Int × Int × QgX × QgW × QgX × QgT × Unit
abbrev Q0.p2.τ : Type := (Int × Int × QgX × QgW × QgX × QgT × Unit) ⊕ QgI 
def Q0.p2.r (k : Nat) {ρ : Type} (x : Q0.p2.σ) (K : Q0.p2.τ → Option ρ) : Option ρ :=
 bif (decide (x.2.1 < x.1)) then (let v8 : Int := x.2.2.2.1.2.2.2.1
 bif (v8 == (0 : Int)) then (K (.inl (x.1, (x.2.1, ((x.2.2.1.1, ((), ((), (x.2.2.1.2.2.2.1, ())))), ((x.2.2.2.1.1, (x.2.2.2.1.2.1, (x.2.2.2.1.2.2.1, (x.2.2.2.1.2.2.2.1, ())))), ((x.2.2.2.2.1.1, ((), ((), (x.2.2.2.2.1.2.2.2.1, ())))), (x.2.2.2.2.2.1, ())))))))) else (K (.inr ((x.2.2.1.1, ((), ((), (x.2.2.1.2.2.2.1, ())))), ((x.2.2.2.1.1, (x.2.2.2.1.2.1, (x.2.2.2.1.2.2.1, (x.2.2.2.1.2.2.2.1, ())))), ((x.2.2.2.2.1.1, ((), ((), (x.2.2.2.2.1.2.2.2.1, ())))), (x.2.2.2.2.2.1, ()))))))) else (K (.inr ((x.2.2.1.1, ((), ((), (x.2.2.1.2.2.2.1, ())))), ((x.2.2.2.1.1, (x.2.2.2.1.2.1, (x.2.2.2.1.2.2.1, (x.2.2.2.1.2.2.2.1, ())))), ((x.2.2.2.2.1.1, ((), ((), (x.2.2.2.2.1.2.2.2.1, ())))), (x.2.2.2.2.2.1, ()))))))
def Q0.p2 (k : Nat) (x : Q0.p2.σ) : Option Q0.p2.τ := Q0.p2.r k x some
def Q0.p2.T : StT := ⟨us 4 ++ .ptr 0 [] :: us 2 ++ .ptr 1 [] :: .ptr 2 [] :: us 1 ++ .dat (.int .i64) :: .dat (.int .i64) :: us 154, [.pair (.dat (.int .u32)) (.pair (.nils) (.pair (.nils) (.dat Qh1))), .dat QgR, .pair (.dat (.int .u32)) (.pair (.vsl 3) (.pair (.nils) (.dat Qh1))), .vec QgQ]⟩
def Q0.p2.os : List Out := [⟨.normal, [.mask [4, 7, 8, 10, 11], .auto 0], ⟨us 4 ++ .ptr 0 [] :: us 2 ++ .ptr 1 [] :: .ptr 2 [] :: us 1 ++ .dat (.int .i64) :: .dat (.int .i64) :: us 154, [.pair (.dat (.int .u32)) (.pair (.nils) (.pair (.nils) (.dat Qh1))), .dat QgR, .pair (.dat (.int .u32)) (.pair (.vsl 3) (.pair (.nils) (.dat Qh1))), .vec QgQ]⟩⟩, ⟨(.exit 0), [.mask [4, 7, 8], .auto 0], ⟨us 4 ++ .ptr 0 [] :: us 2 ++ .ptr 1 [] :: .ptr 2 [] :: us 157, [.pair (.dat (.int .u32)) (.pair (.nils) (.pair (.nils) (.dat Qh1))), .dat QgR, .pair (.dat (.int .u32)) (.pair (.vsl 3) (.pair (.nils) (.dat Qh1))), .vec QgQ]⟩⟩]
abbrev Q0.l3.σ : Type := Int × Int × ByteArray × Int × QgX × QgW × QgX × QgT × ((List Int) × (Int × (ByteArray × (Int × Unit)))) × Unit
abbrev Q0.l3.τ : Type := (Int × Int × QgX × QgW × QgX × QgT × ((List Int) × (Int × (ByteArray × (Int × Unit)))) × Unit)
def Q0.l3.r (k : Nat) {ρ : Type} (x : Q0.l3.σ) (kn : Q0.l3.σ → Option ρ) (ke : Q0.l3.τ → Option ρ) : Option ρ :=
 let v13 : Int := (((ByteArray.size x.2.2.1) : Nat) : Int)
 bif (decide (x.2.2.2.1 < v13)) then (bif (decide (((0 : Int) ≤ x.2.2.2.1) ∧ (x.2.2.2.1 < (((ByteArray.size x.2.2.1) : Nat) : Int)))) then (let v14 : Int := (Q1e x.2.2.1 (Int.toNat x.2.2.2.1))
 bif (decide (((0 : Int) ≤ x.2.2.2.1) ∧ (x.2.2.2.1 < ((32 : Nat) : Int)))) then (let v15 : Int := (IntKind.wrap IntKind.i64 (x.2.2.2.1 + (1 : Int)))
 kn (x.1, (x.2.1, (x.2.2.1, (v15, ((x.2.2.2.2.1.1, ((), ((), (x.2.2.2.2.1.2.2.2.1, ())))), ((x.2.2.2.2.2.1.1, (x.2.2.2.2.2.1.2.1, (x.2.2.2.2.2.1.2.2.1, (x.2.2.2.2.2.1.2.2.2.1, ())))), ((x.2.2.2.2.2.2.1.1, ((), ((), (x.2.2.2.2.2.2.1.2.2.2.1, ())))), (x.2.2.2.2.2.2.2.1, (((List.set x.2.2.2.2.2.2.2.2.1.1 (Int.toNat x.2.2.2.1) v14), (x.2.2.2.2.2.2.2.2.1.2.1, (x.2.2.2.2.2.2.2.2.1.2.2.1, (x.2.2.2.2.2.2.2.2.1.2.2.2.1, ())))), ())))))))))) else (none)) else (none)) else (ke (x.1, (x.2.1, ((x.2.2.2.2.1.1, ((), ((), (x.2.2.2.2.1.2.2.2.1, ())))), ((x.2.2.2.2.2.1.1, (x.2.2.2.2.2.1.2.1, (x.2.2.2.2.2.1.2.2.1, (x.2.2.2.2.2.1.2.2.2.1, ())))), ((x.2.2.2.2.2.2.1.1, ((), ((), (x.2.2.2.2.2.2.1.2.2.2.1, ())))), (x.2.2.2.2.2.2.2.1, ((x.2.2.2.2.2.2.2.2.1.1, (x.2.2.2.2.2.2.2.2.1.2.1, (x.2.2.2.2.2.2.2.2.1.2.2.1, (x.2.2.2.2.2.2.2.2.1.2.2.2.1, ())))), ()))))))))
def Q0.l3 (k : Nat) : Nat → Q0.l3.σ → Option Q0.l3.τ := Q0Q (Q0.l3.r k)
def Q0.l3.T : StT := ⟨us 4 ++ .ptr 0 [] :: us 2 ++ .ptr 1 [] :: .ptr 2 [] :: us 1 ++ .dat (.int .i64) :: .dat (.int .i64) :: .ptr 4 [] :: .dat .str :: .dat (.int .i64) :: us 151, [.pair (.dat (.int .u32)) (.pair (.nils) (.pair (.nils) (.dat Qh1))), .dat QgR, .pair (.dat (.int .u32)) (.pair (.vsl 3) (.pair (.nils) (.dat Qh1))), .vec QgQ, .dat QgQ]⟩
def Q0.l3.os : List Out := [⟨(.exit 2), [.mask [4, 7, 8, 10, 11, 12], .auto 0], ⟨us 4 ++ .ptr 0 [] :: us 2 ++ .ptr 1 [] :: .ptr 2 [] :: us 1 ++ .dat (.int .i64) :: .dat (.int .i64) :: .ptr 4 [] :: us 153, [.pair (.dat (.int .u32)) (.pair (.nils) (.pair (.nils) (.dat Qh1))), .dat QgR, .pair (.dat (.int .u32)) (.pair (.vsl 3) (.pair (.nils) (.dat Qh1))), .vec QgQ, .dat QgQ]⟩⟩]
abbrev Q0.l1.σ : Type := Int × Int × QgX × QgW × QgX × QgT × Unit
abbrev Q0.l1.τ : Type := QgI 
def Q0.l1.r (k : Nat) {ρ : Type} (x : Q0.l1.σ) (kn : Q0.l1.σ → Option ρ) (ke : Q0.l1.τ → Option ρ) : Option ρ :=
 (Q0.p2 k (x.1, (x.2.1, ((x.2.2.1.1, ((), ((), (x.2.2.1.2.2.2.1, ())))), ((x.2.2.2.1.1, (x.2.2.2.1.2.1, (x.2.2.2.1.2.2.1, (x.2.2.2.1.2.2.2.1, ())))), ((x.2.2.2.2.1.1, ((), ((), (x.2.2.2.2.1.2.2.2.1, ())))), (x.2.2.2.2.2.1, ()))))))).bind fun t9 => (match t9 with | .inl t10 => ((QK k (t10.2.2.2.1.1, (t10.2.2.2.1.2.1, (t10.2.2.2.1.2.2.1, (t10.2.2.2.1.2.2.2.1, ())))) (32 : Int)).bind fun t11 => let v12 : ByteArray := t11.2.1
 (Q0.l3 k k (t10.1, (t10.2.1, (v12, ((0 : Int), ((t10.2.2.1.1, ((), ((), (t10.2.2.1.2.2.2.1, ())))), ((t11.1.1, (t11.1.2.1, (t11.1.2.2.1, (t11.1.2.2.2.1, ())))), ((t10.2.2.2.2.1.1, ((), ((), (t10.2.2.2.2.1.2.2.2.1, ())))), (t10.2.2.2.2.2.1, (((List.replicate 32 (0 : Int)), ((0 : Int), ((⟨(List.toArray [])⟩ : ByteArray), ((0 : Int), ())))), ())))))))))).bind fun t16 => (Qf k (t16.2.2.2.1.1, (t16.2.2.2.1.2.1, (t16.2.2.2.1.2.2.1, (t16.2.2.2.1.2.2.2.1, ())))) (4 : Int)).bind fun t17 => let v18 : Int := t17.2.1
 (Q7 k (t17.1.1, (t17.1.2.1, (t17.1.2.2.1, (t17.1.2.2.2.1, ())))) (520 : Int) (100 : Int)).bind fun t19 => let v20 : Int := t19.2.1
 (QK k (t19.1.1, (t19.1.2.1, (t19.1.2.2.1, (t19.1.2.2.2.1, ())))) v20).bind fun t21 => let v22 : ByteArray := t21.2.1
 (Qf k (t21.1.1, (t21.1.2.1, (t21.1.2.2.1, (t21.1.2.2.2.1, ())))) (4 : Int)).bind fun t23 => let v24 : Int := t23.2.1
 bif (Nat.ble (((List.length t16.2.2.2.2.2.1) + (List.length (List.set (List.replicate 1 ((List.replicate 32 (0 : Int)), ((0 : Int), (ByteArray.empty, ((0 : Int), ()))))) 0 (t16.2.2.2.2.2.2.1.1, ((IntKind.wrap IntKind.u32 v18), (v22, ((IntKind.wrap IntKind.u32 v24), ()))))))) * 64) 140737488355328) then (let v25 : Int := (IntKind.wrap IntKind.i64 (t16.2.1 + (1 : Int)))
 kn (t16.1, (v25, ((t16.2.2.1.1, ((), ((), (t16.2.2.1.2.2.2.1, ())))), ((t23.1.1, (t23.1.2.1, (t23.1.2.2.1, (t23.1.2.2.2.1, ())))), ((t16.2.2.2.2.1.1, ((), ((), (t16.2.2.2.2.1.2.2.2.1, ())))), ((t16.2.2.2.2.2.1 ++ (List.set (List.replicate 1 ((List.replicate 32 (0 : Int)), ((0 : Int), (ByteArray.empty, ((0 : Int), ()))))) 0 (t16.2.2.2.2.2.2.1.1, ((IntKind.wrap IntKind.u32 v18), (v22, ((IntKind.wrap IntKind.u32 v24), ())))))), ()))))))) else (none)) | .inr (t26) => (ke ((t26.1.1, ((), ((), (t26.1.2.2.2.1, ())))), ((t26.2.1.1, (t26.2.1.2.1, (t26.2.1.2.2.1, (t26.2.1.2.2.2.1, ())))), ((t26.2.2.1.1, ((), ((), (t26.2.2.1.2.2.2.1, ())))), (t26.2.2.2.1, ()))))))
def Q0.l1 (k : Nat) : Nat → Q0.l1.σ → Option Q0.l1.τ := Q0Q (Q0.l1.r k)
def Q0.l1.T : StT := ⟨us 4 ++ .ptr 0 [] :: us 2 ++ .ptr 1 [] :: .ptr 2 [] :: us 1 ++ .dat (.int .i64) :: .dat (.int .i64) :: us 154, [.pair (.dat (.int .u32)) (.pair (.nils) (.pair (.nils) (.dat Qh1))), .dat QgR, .pair (.dat (.int .u32)) (.pair (.vsl 3) (.pair (.nils) (.dat Qh1))), .vec QgQ]⟩
def Q0.l1.os : List Out := [⟨(.exit 0), [.mask [4, 7, 8], .auto 0], ⟨us 4 ++ .ptr 0 [] :: us 2 ++ .ptr 1 [] :: .ptr 2 [] :: us 157, [.pair (.dat (.int .u32)) (.pair (.nils) (.pair (.nils) (.dat Qh1))), .dat QgR, .pair (.dat (.int .u32)) (.pair (.vsl 3) (.pair (.nils) (.dat Qh1))), .vec QgQ]⟩⟩]
abbrev Q0.p5.σ : Type := Int × Int × QgX × QgW × QgX × QgT × QgZ × Unit
abbrev Q0.p5.τ : Type := (Int × Int × QgX × QgW × QgX × QgT × QgZ × Unit) ⊕ QgE 
def Q0.p5.r (k : Nat) {ρ : Type} (x : Q0.p5.σ) (K : Q0.p5.τ → Option ρ) : Option ρ :=
 bif (decide (x.2.1 < x.1)) then (let v30 : Int := x.2.2.2.1.2.2.2.1
 bif (v30 == (0 : Int)) then (K (.inl (x.1, (x.2.1, ((x.2.2.1.1, ((), ((), (x.2.2.1.2.2.2.1, ())))), ((x.2.2.2.1.1, (x.2.2.2.1.2.1, (x.2.2.2.1.2.2.1, (x.2.2.2.1.2.2.2.1, ())))), ((x.2.2.2.2.1.1, ((), ((), (x.2.2.2.2.1.2.2.2.1, ())))), (x.2.2.2.2.2.1, (x.2.2.2.2.2.2.1, ()))))))))) else (K (.inr ((x.2.2.1.1, ((), ((), (x.2.2.1.2.2.2.1, ())))), ((x.2.2.2.1.1, (x.2.2.2.1.2.1, (x.2.2.2.1.2.2.1, (x.2.2.2.1.2.2.2.1, ())))), ((x.2.2.2.2.1.1, ((), ((), (x.2.2.2.2.1.2.2.2.1, ())))), (x.2.2.2.2.2.1, (x.2.2.2.2.2.2.1, ())))))))) else (K (.inr ((x.2.2.1.1, ((), ((), (x.2.2.1.2.2.2.1, ())))), ((x.2.2.2.1.1, (x.2.2.2.1.2.1, (x.2.2.2.1.2.2.1, (x.2.2.2.1.2.2.2.1, ())))), ((x.2.2.2.2.1.1, ((), ((), (x.2.2.2.2.1.2.2.2.1, ())))), (x.2.2.2.2.2.1, (x.2.2.2.2.2.2.1, ())))))))
def Q0.p5 (k : Nat) (x : Q0.p5.σ) : Option Q0.p5.τ := Q0.p5.r k x some
def Q0.p5.T : StT := ⟨us 4 ++ .ptr 0 [] :: us 2 ++ .ptr 1 [] :: .ptr 2 [] :: us 7 ++ .dat (.int .i64) :: .dat (.int .i64) :: us 148, [.pair (.dat (.int .u32)) (.pair (.nils) (.pair (.nils) (.dat Qh1))), .dat QgR, .pair (.dat (.int .u32)) (.pair (.vsl 3) (.pair (.vsl 4) (.dat Qh1))), .vec QgQ, .vec QgY]⟩
def Q0.p5.os : List Out := [⟨.normal, [.mask [4, 7, 8, 16, 17], .auto 0], ⟨us 4 ++ .ptr 0 [] :: us 2 ++ .ptr 1 [] :: .ptr 2 [] :: us 7 ++ .dat (.int .i64) :: .dat (.int .i64) :: us 148, [.pair (.dat (.int .u32)) (.pair (.nils) (.pair (.nils) (.dat Qh1))), .dat QgR, .pair (.dat (.int .u32)) (.pair (.vsl 3) (.pair (.vsl 4) (.dat Qh1))), .vec QgQ, .vec QgY]⟩⟩, ⟨(.exit 4), [.mask [4, 7, 8], .auto 0], ⟨us 4 ++ .ptr 0 [] :: us 2 ++ .ptr 1 [] :: .ptr 2 [] :: us 157, [.pair (.dat (.int .u32)) (.pair (.nils) (.pair (.nils) (.dat Qh1))), .dat QgR, .pair (.dat (.int .u32)) (.pair (.vsl 3) (.pair (.vsl 4) (.dat Qh1))), .vec QgQ, .vec QgY]⟩⟩]
abbrev Q0.l4.σ : Type := Int × Int × QgX × QgW × QgX × QgT × QgZ × Unit
abbrev Q0.l4.τ : Type := QgE 
def Q0.l4.r (k : Nat) {ρ : Type} (x : Q0.l4.σ) (kn : Q0.l4.σ → Option ρ) (ke : Q0.l4.τ → Option ρ) : Option ρ :=
 (Q0.p5 k (x.1, (x.2.1, ((x.2.2.1.1, ((), ((), (x.2.2.1.2.2.2.1, ())))), ((x.2.2.2.1.1, (x.2.2.2.1.2.1, (x.2.2.2.1.2.2.1, (x.2.2.2.1.2.2.2.1, ())))), ((x.2.2.2.2.1.1, ((), ((), (x.2.2.2.2.1.2.2.2.1, ())))), (x.2.2.2.2.2.1, (x.2.2.2.2.2.2.1, ())))))))).bind fun t31 => (match t31 with | .inl t32 => ((Qf k (t32.2.2.2.1.1, (t32.2.2.2.1.2.1, (t32.2.2.2.1.2.2.1, (t32.2.2.2.1.2.2.2.1, ())))) (8 : Int)).bind fun t33 => let v34 : Int := t33.2.1
 (Q7 k (t33.1.1, (t33.1.2.1, (t33.1.2.2.1, (t33.1.2.2.2.1, ())))) (520 : Int) (100 : Int)).bind fun t35 => let v36 : Int := t35.2.1
 (QK k (t35.1.1, (t35.1.2.1, (t35.1.2.2.1, (t35.1.2.2.2.1, ())))) v36).bind fun t37 => let v38 : ByteArray := t37.2.1
 bif (Nat.ble (((List.length t32.2.2.2.2.2.2.1) + (List.length (List.set (List.replicate 1 ((0 : Int), (ByteArray.empty, ()))) 0 (v34, (v38, ()))))) * 24) 140737488355328) then (let v39 : Int := (IntKind.wrap IntKind.i64 (t32.2.1 + (1 : Int)))
 kn (t32.1, (v39, ((t32.2.2.1.1, ((), ((), (t32.2.2.1.2.2.2.1, ())))), ((t37.1.1, (t37.1.2.1, (t37.1.2.2.1, (t37.1.2.2.2.1, ())))), ((t32.2.2.2.2.1.1, ((), ((), (t32.2.2.2.2.1.2.2.2.1, ())))), (t32.2.2.2.2.2.1, ((t32.2.2.2.2.2.2.1 ++ (List.set (List.replicate 1 ((0 : Int), (ByteArray.empty, ()))) 0 (v34, (v38, ())))), ())))))))) else (none)) | .inr (t40) => (ke ((t40.1.1, ((), ((), (t40.1.2.2.2.1, ())))), ((t40.2.1.1, (t40.2.1.2.1, (t40.2.1.2.2.1, (t40.2.1.2.2.2.1, ())))), ((t40.2.2.1.1, ((), ((), (t40.2.2.1.2.2.2.1, ())))), (t40.2.2.2.1, (t40.2.2.2.2.1, ())))))))
def Q0.l4 (k : Nat) : Nat → Q0.l4.σ → Option Q0.l4.τ := Q0Q (Q0.l4.r k)
def Q0.l4.T : StT := ⟨us 4 ++ .ptr 0 [] :: us 2 ++ .ptr 1 [] :: .ptr 2 [] :: us 7 ++ .dat (.int .i64) :: .dat (.int .i64) :: us 148, [.pair (.dat (.int .u32)) (.pair (.nils) (.pair (.nils) (.dat Qh1))), .dat QgR, .pair (.dat (.int .u32)) (.pair (.vsl 3) (.pair (.vsl 4) (.dat Qh1))), .vec QgQ, .vec QgY]⟩
def Q0.l4.os : List Out := [⟨(.exit 4), [.mask [4, 7, 8], .auto 0], ⟨us 4 ++ .ptr 0 [] :: us 2 ++ .ptr 1 [] :: .ptr 2 [] :: us 157, [.pair (.dat (.int .u32)) (.pair (.nils) (.pair (.nils) (.dat Qh1))), .dat QgR, .pair (.dat (.int .u32)) (.pair (.vsl 3) (.pair (.vsl 4) (.dat Qh1))), .vec QgQ, .vec QgY]⟩⟩]
def Q0.c (k : Nat) {ρ : Type} (s : ByteArray) (at_1 : Int) (K : QgN × Int × Int × Unit → Option ρ) : Option ρ :=
 (Q0.p0 k (s, (at_1, (((0 : Int), ((), ((), ((0 : Int), ())))), ())))).bind fun t1 => (match t1 with | .inl t2 => (K ((t2.2.2.1.1, ([], ([], (t2.2.2.1.2.2.2.1, ())))), (t2.1, (t2.2.1, ())))) | .inr (t3) => ((Qf k (t3.1, (t3.2.1, (t3.2.1, ((0 : Int), ())))) (4 : Int)).bind fun t4 => let v5 : Int := t4.2.1
 (Q7 k (t4.1.1, (t4.1.2.1, (t4.1.2.2.1, (t4.1.2.2.2.1, ())))) (4096 : Int) (5 : Int)).bind fun t6 => let v7 : Int := t6.2.1
 (Q0.l1 k k (v7, ((0 : Int), ((t3.2.2.1.1, ((), ((), (t3.2.2.1.2.2.2.1, ())))), ((t6.1.1, (t6.1.2.1, (t6.1.2.2.1, (t6.1.2.2.2.1, ())))), (((IntKind.wrap IntKind.u32 v5), ((), ((), ((0 : Int), ())))), ([], ()))))))).bind fun t27 => (Q7 k (t27.2.1.1, (t27.2.1.2.1, (t27.2.1.2.2.1, (t27.2.1.2.2.2.1, ())))) (4096 : Int) (5 : Int)).bind fun t28 => let v29 : Int := t28.2.1
 (Q0.l4 k k (v29, ((0 : Int), ((t27.1.1, ((), ((), (t27.1.2.2.2.1, ())))), ((t28.1.1, (t28.1.2.1, (t28.1.2.2.1, (t28.1.2.2.2.1, ())))), ((t27.2.2.1.1, ((), ((), (t27.2.2.1.2.2.2.1, ())))), (t27.2.2.2.1, ([], ())))))))).bind fun t41 => (Qf k (t41.2.1.1, (t41.2.1.2.1, (t41.2.1.2.2.1, (t41.2.1.2.2.2.1, ())))) (4 : Int)).bind fun t42 => let v43 : Int := t42.2.1
 let v44 : Int := t42.1.2.2.2.1
 bif (v44 != (0 : Int)) then (let v45 : Int := t42.1.2.2.2.1
 K (((0 : Int), ([], ([], ((0 : Int), ())))), ((0 : Int), (v45, ())))) else (let v46 : Int := t42.1.2.2.1
 K ((t41.2.2.1.1, (t41.2.2.2.1, (t41.2.2.2.2.1, ((IntKind.wrap IntKind.u32 v43), ())))), (v46, ((0 : Int), ()))))))
def Q0 (k : Nat) (s : ByteArray) (at_1 : Int) : Option (QgN × Int × Int × Unit) := Q0.c k s at_1 some
def Q0.tin : List Ty := [.str, (.int .i64)]
def Q0.tout : List Ty := [QgH, (.int .i64), (.int .i64)]
def Q0.sem (k : Nat) : QY := Q04 Q0.tin Q0.tout fun x => Q0 k x.1 x.2.1
noncomputable def Q0.ctx (k : Nat) : Ctx := ⟨Try.prog, gam [(70, (Qf.sem k)), (71, (Q7.sem k)), (72, (QK.sem k))]⟩
theorem Q0.gok (k : Nat) : ∀ f, QG Try.prog f ((Q0.ctx k).Γ f) := (Qq (Qf.sem_ok k) (Qq (Q7.sem_ok k) (Qq (QK.sem_ok k) Q0e)))
theorem Q0.p0.is (k : Nat) : Q1E (Q0.ctx k) (QP (Func.code Try.f20) [1, 0]) (.nil) Q0.p0.T Q0.p0.os (Q0.p0.r k) := by
 intro ρ x K; kernel_rfl
theorem Q0.p0.ok (k : Nat) : StOK 0 Try.prog (QP (Func.code Try.f20) [1, 0]) (Qx Q0.p0.T Q0.p0.os (Q0.p0 k)) :=
 Q1r (C := Q0.ctx k) (T := Q0.p0.T) (os := Q0.p0.os) (Q0.gok k) Try.mix (fun x K => Q0.p0.r k x K) Q3.nil (by kernel_rfl) (by kernel_rfl) (Q0.p0.is k)
theorem Q0.p2.is (k : Nat) : Q1E (Q0.ctx k) (QP (Func.code Try.f20) [1, 1, 1, 1, 1, 1, 1, 0, 1, 0, 0, 0]) (.nil) Q0.p2.T Q0.p2.os (Q0.p2.r k) := by
 intro ρ x K; kernel_rfl
theorem Q0.p2.ok (k : Nat) : StOK 0 Try.prog (QP (Func.code Try.f20) [1, 1, 1, 1, 1, 1, 1, 0, 1, 0, 0, 0]) (Qx Q0.p2.T Q0.p2.os (Q0.p2 k)) :=
 Q1r (C := Q0.ctx k) (T := Q0.p2.T) (os := Q0.p2.os) (Q0.gok k) Try.mix (fun x K => Q0.p2.r k x K) Q3.nil (by kernel_rfl) (by kernel_rfl) (Q0.p2.is k)
theorem Q0.l3.round (k : Nat) : Q0L (Q0.ctx k) (QP (Func.code Try.f20) [1, 1, 1, 1, 1, 1, 1, 0, 1, 0, 0, 1, 0, 0, 1, 1, 1, 0, 1, 0, 0]) (.nil) Q0.l3.T [.mask [4, 7, 8, 10, 11, 12, 13, 14], .auto 0] Q0.l3.os (Q0.l3.r k) := by
 intro ρ x kn ke; kernel_rfl
theorem Q0.l3.ok (k : Nat) : StOK 0 Try.prog (.loop (QP (Func.code Try.f20) [1, 1, 1, 1, 1, 1, 1, 0, 1, 0, 0, 1, 0, 0, 1, 1, 1, 0, 1, 0, 0])) (Qx Q0.l3.T Q0.l3.os (Q0.l3 k k)) :=
 Q0M (C := Q0.ctx k) (Q0.gok k) Try.mix Q3.nil (by kernel_rfl) (by kernel_rfl) (by kernel_rfl) (Q0.l3.round k) k
theorem Q0.l1.round (k : Nat) : Q0L (Q0.ctx k) (QP (Func.code Try.f20) [1, 1, 1, 1, 1, 1, 1, 0, 1, 0, 0]) (.node [] none (.node [.mask [4, 7, 8, 10, 11], .auto 0] (some (Qx Q0.p2.T Q0.p2.os (Q0.p2 k))) .nil .nil) (.node [] none (.node [] none (.node [] none (.nil) (.node [] none (.nil) (.node [] none (.nil) (.node [] none (.node [] none (.nil) (.node [] none (.node [.mask [4, 7, 8, 10, 11, 12, 13, 14], .auto 0] (some (Qx Q0.l3.T Q0.l3.os (Q0.l3 k k))) .nil .nil) (.nil))) (.nil))))) (.nil)) (.nil))) Q0.l1.T [.mask [4, 7, 8, 10, 11], .auto 0] Q0.l1.os (Q0.l1.r k) := by
 intro ρ x kn ke; kernel_rfl
theorem Q0.l1.ok (k : Nat) : StOK 0 Try.prog (.loop (QP (Func.code Try.f20) [1, 1, 1, 1, 1, 1, 1, 0, 1, 0, 0])) (Qx Q0.l1.T Q0.l1.os (Q0.l1 k k)) :=
 Q0M (C := Q0.ctx k) (Q0.gok k) Try.mix (Q3.seq (Q3.loop (by kernel_rfl) (Q0.p2.ok k)) (Q3.seq (Q3.block (Q3.seq Q3.nil (Q3.seq Q3.nil (Q3.seq Q3.nil (Q3.seq (Q3.seq Q3.nil (Q3.block (Q3.loop (by kernel_rfl) (Q0.l3.ok k)))) Q3.nil))))) Q3.nil)) (by kernel_rfl) (by kernel_rfl) (by kernel_rfl) (Q0.l1.round k) k
theorem Q0.p5.is (k : Nat) : Q1E (Q0.ctx k) (QP (Func.code Try.f20) [1, 1, 1, 1, 1, 1, 1, 1, 1, 0, 1, 0, 0, 0]) (.nil) Q0.p5.T Q0.p5.os (Q0.p5.r k) := by
 intro ρ x K; kernel_rfl
theorem Q0.p5.ok (k : Nat) : StOK 0 Try.prog (QP (Func.code Try.f20) [1, 1, 1, 1, 1, 1, 1, 1, 1, 0, 1, 0, 0, 0]) (Qx Q0.p5.T Q0.p5.os (Q0.p5 k)) :=
 Q1r (C := Q0.ctx k) (T := Q0.p5.T) (os := Q0.p5.os) (Q0.gok k) Try.mix (fun x K => Q0.p5.r k x K) Q3.nil (by kernel_rfl) (by kernel_rfl) (Q0.p5.is k)
theorem Q0.l4.round (k : Nat) : Q0L (Q0.ctx k) (QP (Func.code Try.f20) [1, 1, 1, 1, 1, 1, 1, 1, 1, 0, 1, 0, 0]) (.node [] none (.node [.mask [4, 7, 8, 16, 17], .auto 0] (some (Qx Q0.p5.T Q0.p5.os (Q0.p5 k))) .nil .nil) (.nil)) Q0.l4.T [.mask [4, 7, 8, 16, 17], .auto 0] Q0.l4.os (Q0.l4.r k) := by
 intro ρ x kn ke; kernel_rfl
theorem Q0.l4.ok (k : Nat) : StOK 0 Try.prog (.loop (QP (Func.code Try.f20) [1, 1, 1, 1, 1, 1, 1, 1, 1, 0, 1, 0, 0])) (Qx Q0.l4.T Q0.l4.os (Q0.l4 k k)) :=
 Q0M (C := Q0.ctx k) (Q0.gok k) Try.mix (Q3.seq (Q3.loop (by kernel_rfl) (Q0.p5.ok k)) Q3.nil) (by kernel_rfl) (by kernel_rfl) (by kernel_rfl) (Q0.l4.round k) k
def Q0.ann (k : Nat) : Ann := .node [] none (.nil) (.node [] none (.node [.mask [0, 1, 4], .auto 0] (some (Qx Q0.p0.T Q0.p0.os (Q0.p0 k))) .nil .nil) (.node [] none (.nil) (.node [] none (.nil) (.node [] none (.nil) (.node [] none (.nil) (.node [] none (.nil) (.node [] none (.node [] none (.nil) (.node [] none (.node [.mask [4, 7, 8, 10, 11], .auto 0, .own (.blk 2 [1]) QgQ] (some (Qx Q0.l1.T Q0.l1.os (Q0.l1 k k))) .nil .nil) (.nil))) (.node [] none (.nil) (.node [] none (.node [] none (.nil) (.node [] none (.node [.mask [4, 7, 8, 16, 17], .auto 0, .own (.blk 2 [2]) QgY] (some (Qx Q0.l4.T Q0.l4.os (Q0.l4 k k))) .nil .nil) (.nil))) (.nil))))))))))
theorem Q0.body (k : Nat) : Q0K (Q0.ctx k) Try.f20 (Func.code Try.f20) (Q0.ann k) Q0.tin Q0.tout (fun x K => Q0.c k x.1 x.2.1 K) := by
 intro ρ x K; kernel_rfl
theorem Q0.sem_ok (k : Nat) : QG Try.prog 20 (Q0.sem k) :=
 QT (C := Q0.ctx k) (Q0.gok k) Try.mix (c := Func.code Try.f20) (ann := Q0.ann k) (tin := Q0.tin) (tout := Q0.tout) (fun x K => Q0.c k x.1 x.2.1 K) Try.func20 (by kernel_rfl) (by kernel_rfl) (Q3.seq Q3.nil (Q3.seq (Q3.loop (by kernel_rfl) (Q0.p0.ok k)) (Q3.seq Q3.nil (Q3.seq Q3.nil (Q3.seq Q3.nil (Q3.seq Q3.nil (Q3.seq Q3.nil (Q3.seq (Q3.seq Q3.nil (Q3.block (Q3.loop (by kernel_rfl) (Q0.l1.ok k)))) (Q3.seq Q3.nil (Q3.seq (Q3.seq Q3.nil (Q3.block (Q3.loop (by kernel_rfl) (Q0.l4.ok k)))) Q3.nil)))))))))) (Q0.body k)
def Q1g.c (k : Nat) {ρ : Type} (n : Int) (K : Int × Unit → Option ρ) : Option ρ :=
 (Q0h k (IntKind.wrap IntKind.u64 n)).bind fun t0 => let v1 : Int := (IntKind.wrap IntKind.i64 (t0.1 + n))
 K (v1, ())
def Q1g (k : Nat) (n : Int) : Option (Int × Unit) := Q1g.c k n some
def Q1g.tin : List Ty := [(.int .i64)]
def Q1g.tout : List Ty := [(.int .i64)]
def Q1g.sem (k : Nat) : QY := Q04 Q1g.tin Q1g.tout fun x => Q1g k x.1
noncomputable def Q1g.ctx (k : Nat) : Ctx := ⟨Try.prog, gam [(90, (Q0h.sem k))]⟩
theorem Q1g.gok (k : Nat) : ∀ f, QG Try.prog f ((Q1g.ctx k).Γ f) := (Qq (Q0h.sem_ok k) Q0e)
def Q1g.ann (k : Nat) : Ann := .nil
theorem Q1g.body (k : Nat) : Q0K (Q1g.ctx k) Try.f91 (Func.code Try.f91) (Q1g.ann k) Q1g.tin Q1g.tout (fun x K => Q1g.c k x.1 K) := by
 intro ρ x K; kernel_rfl
theorem Q1g.sem_ok (k : Nat) : QG Try.prog 91 (Q1g.sem k) :=
 QT (C := Q1g.ctx k) (Q1g.gok k) Try.mix (c := Func.code Try.f91) (ann := Q1g.ann k) (tin := Q1g.tin) (tout := Q1g.tout) (fun x K => Q1g.c k x.1 K) Try.func91 (by kernel_rfl) (by kernel_rfl) Q3.nil (Q1g.body k)
abbrev Q0a.l0.σ : Type := Int × QgS × Int × Int × QgM × Unit
abbrev Q0a.l0.τ : Type := (Int × QgM × Unit)
def Q0a.l0.r (k : Nat) {ρ : Type} (x : Q0a.l0.σ) (kn : Q0a.l0.σ → Option ρ) (ke : Q0a.l0.τ → Option ρ) : Option ρ :=
 bif (decide (x.2.2.2.1 < x.2.2.1)) then (bif (decide (((0 : Int) ≤ x.2.2.2.1) ∧ (x.2.2.2.1 < (((List.length x.2.1) : Nat) : Int)))) then (let v11 : ByteArray := (List.getD x.2.1 (Int.toNat x.2.2.2.1) (((List.replicate 32 (0 : Int)), ((0 : Int), ())), (ByteArray.empty, ((0 : Int), ())))).2.1
 (Q1g k (((ByteArray.size v11) : Nat) : Int)).bind fun t12 => let v13 : Int := (IntKind.wrap IntKind.i64 ((40 : Int) + t12.1))
 let v14 : Int := (IntKind.wrap IntKind.i64 (x.1 + v13))
 let v15 : Int := (IntKind.wrap IntKind.i64 (x.2.2.2.1 + (1 : Int)))
 kn (v14, (x.2.1, (x.2.2.1, (v15, ((x.2.2.2.2.1.1, (x.2.2.2.2.1.2.1, (x.2.2.2.2.1.2.2.1, (x.2.2.2.2.1.2.2.2.1, ())))), ())))))) else (none)) else (ke (x.1, ((x.2.2.2.2.1.1, (x.2.2.2.2.1.2.1, (x.2.2.2.2.1.2.2.1, (x.2.2.2.2.1.2.2.2.1, ())))), ())))
def Q0a.l0 (k : Nat) : Nat → Q0a.l0.σ → Option Q0a.l0.τ := Q0Q (Q0a.l0.r k)
def Q0a.l0.T : StT := ⟨us 1 ++ .ptr 0 [] :: us 1 ++ .dat (.int .i64) :: us 18 ++ .dat QgO :: .dat (.int .i64) :: .dat (.int .i64) :: us 27, [.dat QgF]⟩
def Q0a.l0.os : List Out := [⟨(.exit 0), [.mask [1, 3], .auto 0], ⟨us 1 ++ .ptr 0 [] :: us 1 ++ .dat (.int .i64) :: us 48, [.dat QgF]⟩⟩]
abbrev Q0a.l1.σ : Type := Int × QgZ × Int × Int × Unit
abbrev Q0a.l1.τ : Type := (Int × Unit)
def Q0a.l1.r (k : Nat) {ρ : Type} (x : Q0a.l1.σ) (kn : Q0a.l1.σ → Option ρ) (ke : Q0a.l1.τ → Option ρ) : Option ρ :=
 bif (decide (x.2.2.2.1 < x.2.2.1)) then (bif (decide (((0 : Int) ≤ x.2.2.2.1) ∧ (x.2.2.2.1 < (((List.length x.2.1) : Nat) : Int)))) then (let v19 : ByteArray := (List.getD x.2.1 (Int.toNat x.2.2.2.1) ((0 : Int), (ByteArray.empty, ()))).2.1
 (Q1g k (((ByteArray.size v19) : Nat) : Int)).bind fun t20 => let v21 : Int := (IntKind.wrap IntKind.i64 ((8 : Int) + t20.1))
 let v22 : Int := (IntKind.wrap IntKind.i64 (x.1 + v21))
 let v23 : Int := (IntKind.wrap IntKind.i64 (x.2.2.2.1 + (1 : Int)))
 kn (v22, (x.2.1, (x.2.2.1, (v23, ()))))) else (none)) else (ke (x.1, ()))
def Q0a.l1 (k : Nat) : Nat → Q0a.l1.σ → Option Q0a.l1.τ := Q0Q (Q0a.l1.r k)
def Q0a.l1.T : StT := ⟨us 3 ++ .dat (.int .i64) :: us 33 ++ .dat QgV :: .dat (.int .i64) :: .dat (.int .i64) :: us 12, []⟩
def Q0a.l1.os : List Out := [⟨(.exit 2), [.mask [3], .auto 0], ⟨us 3 ++ .dat (.int .i64) :: us 48, []⟩⟩]
def Q0a.c (k : Nat) {ρ : Type} (t : QgM) (K : Int × Unit → Option ρ) : Option ρ :=
 let v0 : QgS := t.2.1
 let v1 : Int := (((List.length v0) : Nat) : Int)
 (Q0h k (IntKind.wrap IntKind.u64 v1)).bind fun t2 => let v3 : Int := (IntKind.wrap IntKind.i64 ((4 : Int) + t2.1))
 let v4 : QgZ := t.2.2.1
 let v5 : Int := (((List.length v4) : Nat) : Int)
 (Q0h k (IntKind.wrap IntKind.u64 v5)).bind fun t6 => let v7 : Int := (IntKind.wrap IntKind.i64 (v3 + t6.1))
 let v8 : Int := (IntKind.wrap IntKind.i64 (v7 + (4 : Int)))
 let v9 : QgS := t.2.1
 let v10 : Int := (((List.length v9) : Nat) : Int)
 (Q0a.l0 k k (v8, (v9, (v10, ((0 : Int), ((t.1, (t.2.1, (t.2.2.1, (t.2.2.2.1, ())))), ())))))).bind fun t16 => let v17 : QgZ := t16.2.1.2.2.1
 let v18 : Int := (((List.length v17) : Nat) : Int)
 (Q0a.l1 k k (t16.1, (v17, (v18, ((0 : Int), ()))))).bind fun t24 => K (t24.1, ())
def Q0a (k : Nat) (t : QgM) : Option (Int × Unit) := Q0a.c k t some
def Q0a.tin : List Ty := [QgF]
def Q0a.tout : List Ty := [(.int .i64)]
def Q0a.sem (k : Nat) : QY := Q04 Q0a.tin Q0a.tout fun x => Q0a k x.1
noncomputable def Q0a.ctx (k : Nat) : Ctx := ⟨Try.prog, gam [(90, (Q0h.sem k)), (91, (Q1g.sem k))]⟩
theorem Q0a.gok (k : Nat) : ∀ f, QG Try.prog f ((Q0a.ctx k).Γ f) := (Qq (Q0h.sem_ok k) (Qq (Q1g.sem_ok k) Q0e))
theorem Q0a.l0.round (k : Nat) : Q0L (Q0a.ctx k) (QP (Func.code Try.f45) [1, 1, 0, 1, 0, 0]) (.nil) Q0a.l0.T [.mask [1, 3, 22, 23, 24], .auto 0] Q0a.l0.os (Q0a.l0.r k) := by
 intro ρ x kn ke; kernel_rfl
theorem Q0a.l0.ok (k : Nat) : StOK 0 Try.prog (.loop (QP (Func.code Try.f45) [1, 1, 0, 1, 0, 0])) (Qx Q0a.l0.T Q0a.l0.os (Q0a.l0 k k)) :=
 Q0M (C := Q0a.ctx k) (Q0a.gok k) Try.mix Q3.nil (by kernel_rfl) (by kernel_rfl) (by kernel_rfl) (Q0a.l0.round k) k
theorem Q0a.l1.round (k : Nat) : Q0L (Q0a.ctx k) (QP (Func.code Try.f45) [1, 1, 1, 0, 1, 0, 0]) (.nil) Q0a.l1.T [.mask [3, 37, 38, 39], .auto 0] Q0a.l1.os (Q0a.l1.r k) := by
 intro ρ x kn ke; kernel_rfl
theorem Q0a.l1.ok (k : Nat) : StOK 0 Try.prog (.loop (QP (Func.code Try.f45) [1, 1, 1, 0, 1, 0, 0])) (Qx Q0a.l1.T Q0a.l1.os (Q0a.l1 k k)) :=
 Q0M (C := Q0a.ctx k) (Q0a.gok k) Try.mix Q3.nil (by kernel_rfl) (by kernel_rfl) (by kernel_rfl) (Q0a.l1.round k) k
def Q0a.ann (k : Nat) : Ann := .node [] none (.nil) (.node [] none (.nil) (.node [] none (.node [] none (.nil) (.node [] none (.node [.mask [1, 3, 22, 23, 24], .auto 0] (some (Qx Q0a.l0.T Q0a.l0.os (Q0a.l0 k k))) .nil .nil) (.nil))) (.node [] none (.node [] none (.nil) (.node [] none (.node [.mask [3, 37, 38, 39], .auto 0] (some (Qx Q0a.l1.T Q0a.l1.os (Q0a.l1 k k))) .nil .nil) (.nil))) (.nil))))
theorem Q0a.body (k : Nat) : Q0K (Q0a.ctx k) Try.f45 (Func.code Try.f45) (Q0a.ann k) Q0a.tin Q0a.tout (fun x K => Q0a.c k x.1 K) := by
 intro ρ x K; kernel_rfl
theorem Q0a.sem_ok (k : Nat) : QG Try.prog 45 (Q0a.sem k) :=
 QT (C := Q0a.ctx k) (Q0a.gok k) Try.mix (c := Func.code Try.f45) (ann := Q0a.ann k) (tin := Q0a.tin) (tout := Q0a.tout) (fun x K => Q0a.c k x.1 K) Try.func45 (by kernel_rfl) (by kernel_rfl) (Q3.seq Q3.nil (Q3.seq Q3.nil (Q3.seq (Q3.seq Q3.nil (Q3.block (Q3.loop (by kernel_rfl) (Q0a.l0.ok k)))) (Q3.seq (Q3.seq Q3.nil (Q3.block (Q3.loop (by kernel_rfl) (Q0a.l1.ok k)))) Q3.nil)))) (Q0a.body k)
abbrev Q0k.τ : Type := QgU 
def Q0k.c (k : Nat) {ρ : Type} (n : Int) (b0 : Qh0) (b1 : (List Int)) (K : Q0k.τ → Option ρ) : Option ρ :=
 (Q0r k (IntKind.wrap IntKind.u64 n) (4 : Int)).bind fun t0 => (QD k t0.1 (((), ((), ())), ()) b1).bind fun t1 => K ((((), ((), ())), ()), (t1.2.1, ()))
def Q0k (k : Nat) (n : Int) (b0 : Qh0) (b1 : (List Int)) : Option Q0k.τ := Q0k.c k n b0 b1 some
def Q0k.T : Q1F := ⟨[.ptr 0 [], .dat (.int .u32)], [.pair (.pair (.sfp 0 [0] 180) (.pair (.vbs 1) (.dat .unit))) (.dat .unit), .vec (.int .u8)], 1⟩
def Q0k.os : List Out := [⟨.ret, [.auto 1], ⟨[], [.pair (.pair (.sfp 0 [0] 180) (.pair (.vbs 1) (.dat .unit))) (.dat .unit), .vec (.int .u8)]⟩⟩]
def Q0k.sem (k : Nat) : QY := Q1U Q0k.T Q0k.os fun x => Q0k k x.1 x.2.1 x.2.2.1
noncomputable def Q0k.ctx (k : Nat) : Ctx := ⟨Try.prog, gam [(109, (Q0r.sem k)), (95, (QD.sem k))]⟩
theorem Q0k.gok (k : Nat) : ∀ f, QG Try.prog f ((Q0k.ctx k).Γ f) := (Qq (Q0r.sem_ok k) (Qq (QD.sem_ok k) Q0e))
def Q0k.ann (k : Nat) : Ann := .nil
theorem Q0k.body (k : Nat) : Q1S (Q0k.ctx k) Try.f77 (Func.code Try.f77) (Q0k.ann k) Q0k.T Q0k.os (fun x K => Q0k.c k x.1 x.2.1 x.2.2.1 K) := by
 intro ρ x K; kernel_rfl
theorem Q0k.sem_ok (k : Nat) : QG Try.prog 77 (Q0k.sem k) :=
 Q1c (C := Q0k.ctx k) (Q0k.gok k) Try.mix (c := Func.code Try.f77) (ann := Q0k.ann k) (T := Q0k.T) (os := Q0k.os) (fun x K => Q0k.c k x.1 x.2.1 x.2.2.1 K) Try.func77 (by kernel_rfl) (by kernel_rfl) Q3.nil (Q0k.body k) (by kernel_rfl) (by kernel_rfl) (by kernel_rfl)
def Q0S.c (k : Nat) {ρ : Type} (n : Int) (K : ByteArray × Unit → Option ρ) : Option ρ :=
 (Q0h k n).bind fun t0 => bif (t0.1 == (1 : Int)) then ((Q0r k n (1 : Int)).bind fun t1 => K (t1.1, ())) else (bif (t0.1 == (3 : Int)) then ((Q0r k (253 : Int) (1 : Int)).bind fun t2 => (Q0r k n (2 : Int)).bind fun t3 => bif (Nat.ble ((ByteArray.size t2.1) + (ByteArray.size t3.1)) 9223372036854775807) then (let v4 : ByteArray := (t2.1 ++ t3.1)
 K (v4, ())) else (none)) else (bif (t0.1 == (5 : Int)) then ((Q0r k (254 : Int) (1 : Int)).bind fun t5 => (Q0r k n (4 : Int)).bind fun t6 => bif (Nat.ble ((ByteArray.size t5.1) + (ByteArray.size t6.1)) 9223372036854775807) then (let v7 : ByteArray := (t5.1 ++ t6.1)
 K (v7, ())) else (none)) else ((Q0r k (255 : Int) (1 : Int)).bind fun t8 => (Q0r k n (8 : Int)).bind fun t9 => bif (Nat.ble ((ByteArray.size t8.1) + (ByteArray.size t9.1)) 9223372036854775807) then (let v10 : ByteArray := (t8.1 ++ t9.1)
 K (v10, ())) else (none))))
def Q0S (k : Nat) (n : Int) : Option (ByteArray × Unit) := Q0S.c k n some
def Q0S.tin : List Ty := [(.int .u64)]
def Q0S.tout : List Ty := [.str]
def Q0S.sem (k : Nat) : QY := Q04 Q0S.tin Q0S.tout fun x => Q0S k x.1
noncomputable def Q0S.ctx (k : Nat) : Ctx := ⟨Try.prog, gam [(90, (Q0h.sem k)), (109, (Q0r.sem k))]⟩
theorem Q0S.gok (k : Nat) : ∀ f, QG Try.prog f ((Q0S.ctx k).Γ f) := (Qq (Q0h.sem_ok k) (Qq (Q0r.sem_ok k) Q0e))
def Q0S.ann (k : Nat) : Ann := .nil
theorem Q0S.body (k : Nat) : Q0K (Q0S.ctx k) Try.f110 (Func.code Try.f110) (Q0S.ann k) Q0S.tin Q0S.tout (fun x K => Q0S.c k x.1 K) := by
 intro ρ x K; kernel_rfl
theorem Q0S.sem_ok (k : Nat) : QG Try.prog 110 (Q0S.sem k) :=
 QT (C := Q0S.ctx k) (Q0S.gok k) Try.mix (c := Func.code Try.f110) (ann := Q0S.ann k) (tin := Q0S.tin) (tout := Q0S.tout) (fun x K => Q0S.c k x.1 K) Try.func110 (by kernel_rfl) (by kernel_rfl) Q3.nil (Q0S.body k)
abbrev QZ.τ : Type := QgU 
def QZ.c (k : Nat) {ρ : Type} (n : Int) (b0 : Qh0) (b1 : (List Int)) (K : QZ.τ → Option ρ) : Option ρ :=
 (Q0S k n).bind fun t0 => (QD k t0.1 (((), ((), ())), ()) b1).bind fun t1 => K ((((), ((), ())), ()), (t1.2.1, ()))
def QZ (k : Nat) (n : Int) (b0 : Qh0) (b1 : (List Int)) : Option QZ.τ := QZ.c k n b0 b1 some
def QZ.T : Q1F := ⟨[.ptr 0 [], .dat (.int .u64)], [.pair (.pair (.sfp 0 [0] 180) (.pair (.vbs 1) (.dat .unit))) (.dat .unit), .vec (.int .u8)], 1⟩
def QZ.os : List Out := [⟨.ret, [.auto 1], ⟨[], [.pair (.pair (.sfp 0 [0] 180) (.pair (.vbs 1) (.dat .unit))) (.dat .unit), .vec (.int .u8)]⟩⟩]
def QZ.sem (k : Nat) : QY := Q1U QZ.T QZ.os fun x => QZ k x.1 x.2.1 x.2.2.1
noncomputable def QZ.ctx (k : Nat) : Ctx := ⟨Try.prog, gam [(110, (Q0S.sem k)), (95, (QD.sem k))]⟩
theorem QZ.gok (k : Nat) : ∀ f, QG Try.prog f ((QZ.ctx k).Γ f) := (Qq (Q0S.sem_ok k) (Qq (QD.sem_ok k) Q0e))
def QZ.ann (k : Nat) : Ann := .nil
theorem QZ.body (k : Nat) : Q1S (QZ.ctx k) Try.f78 (Func.code Try.f78) (QZ.ann k) QZ.T QZ.os (fun x K => QZ.c k x.1 x.2.1 x.2.2.1 K) := by
 intro ρ x K; kernel_rfl
theorem QZ.sem_ok (k : Nat) : QG Try.prog 78 (QZ.sem k) :=
 Q1c (C := QZ.ctx k) (QZ.gok k) Try.mix (c := Func.code Try.f78) (ann := QZ.ann k) (T := QZ.T) (os := QZ.os) (fun x K => QZ.c k x.1 x.2.1 x.2.2.1 K) Try.func78 (by kernel_rfl) (by kernel_rfl) Q3.nil (QZ.body k) (by kernel_rfl) (by kernel_rfl) (by kernel_rfl)
abbrev Q0j.τ : Type := QgU 
def Q0j.c (k : Nat) {ρ : Type} (h : (List Int)) (b0 : Qh0) (b1 : (List Int)) (K : Q0j.τ → Option ρ) : Option ρ :=
 let v0 : ByteArray := (bytesOf (List.take 32 (List.drop 0 h)))
 (QD k v0 (((), ((), ())), ()) b1).bind fun t1 => K ((((), ((), ())), ()), (t1.2.1, ()))
def Q0j (k : Nat) (h : (List Int)) (b0 : Qh0) (b1 : (List Int)) : Option Q0j.τ := Q0j.c k h b0 b1 some
def Q0j.T : Q1F := ⟨[.ptr 0 [], .dat (.arr 32 (.int .u8))], [.pair (.pair (.sfp 0 [0] 180) (.pair (.vbs 1) (.dat .unit))) (.dat .unit), .vec (.int .u8)], 1⟩
def Q0j.os : List Out := [⟨.ret, [.auto 1], ⟨[], [.pair (.pair (.sfp 0 [0] 180) (.pair (.vbs 1) (.dat .unit))) (.dat .unit), .vec (.int .u8)]⟩⟩]
def Q0j.sem (k : Nat) : QY := Q1U Q0j.T Q0j.os fun x => Q0j k x.1 x.2.1 x.2.2.1
noncomputable def Q0j.ctx (k : Nat) : Ctx := ⟨Try.prog, gam [(95, (QD.sem k))]⟩
theorem Q0j.gok (k : Nat) : ∀ f, QG Try.prog f ((Q0j.ctx k).Γ f) := (Qq (QD.sem_ok k) Q0e)
def Q0j.ann (k : Nat) : Ann := .nil
theorem Q0j.body (k : Nat) : Q1S (Q0j.ctx k) Try.f79 (Func.code Try.f79) (Q0j.ann k) Q0j.T Q0j.os (fun x K => Q0j.c k x.1 x.2.1 x.2.2.1 K) := by
 intro ρ x K; kernel_rfl
theorem Q0j.sem_ok (k : Nat) : QG Try.prog 79 (Q0j.sem k) :=
 Q1c (C := Q0j.ctx k) (Q0j.gok k) Try.mix (c := Func.code Try.f79) (ann := Q0j.ann k) (T := Q0j.T) (os := Q0j.os) (fun x K => Q0j.c k x.1 x.2.1 x.2.2.1 K) Try.func79 (by kernel_rfl) (by kernel_rfl) Q3.nil (Q0j.body k) (by kernel_rfl) (by kernel_rfl) (by kernel_rfl)
abbrev Q02.τ : Type := QgU 
def Q02.c (k : Nat) {ρ : Type} (s : ByteArray) (b0 : Qh0) (b1 : (List Int)) (K : Q02.τ → Option ρ) : Option ρ :=
 (QZ k (IntKind.wrap IntKind.u64 (((ByteArray.size s) : Nat) : Int)) (((), ((), ())), ()) b1).bind fun t0 => (QD k s (((), ((), ())), ()) t0.2.1).bind fun t1 => K ((((), ((), ())), ()), (t1.2.1, ()))
def Q02 (k : Nat) (s : ByteArray) (b0 : Qh0) (b1 : (List Int)) : Option Q02.τ := Q02.c k s b0 b1 some
def Q02.T : Q1F := ⟨[.ptr 0 [], .dat .str], [.pair (.pair (.sfp 0 [0] 180) (.pair (.vbs 1) (.dat .unit))) (.dat .unit), .vec (.int .u8)], 1⟩
def Q02.os : List Out := [⟨.ret, [.auto 1], ⟨[], [.pair (.pair (.sfp 0 [0] 180) (.pair (.vbs 1) (.dat .unit))) (.dat .unit), .vec (.int .u8)]⟩⟩]
def Q02.sem (k : Nat) : QY := Q1U Q02.T Q02.os fun x => Q02 k x.1 x.2.1 x.2.2.1
noncomputable def Q02.ctx (k : Nat) : Ctx := ⟨Try.prog, gam [(78, (QZ.sem k)), (95, (QD.sem k))]⟩
theorem Q02.gok (k : Nat) : ∀ f, QG Try.prog f ((Q02.ctx k).Γ f) := (Qq (QZ.sem_ok k) (Qq (QD.sem_ok k) Q0e))
def Q02.ann (k : Nat) : Ann := .nil
theorem Q02.body (k : Nat) : Q1S (Q02.ctx k) Try.f80 (Func.code Try.f80) (Q02.ann k) Q02.T Q02.os (fun x K => Q02.c k x.1 x.2.1 x.2.2.1 K) := by
 intro ρ x K; kernel_rfl
theorem Q02.sem_ok (k : Nat) : QG Try.prog 80 (Q02.sem k) :=
 Q1c (C := Q02.ctx k) (Q02.gok k) Try.mix (c := Func.code Try.f80) (ann := Q02.ann k) (T := Q02.T) (os := Q02.os) (fun x K => Q02.c k x.1 x.2.1 x.2.2.1 K) Try.func80 (by kernel_rfl) (by kernel_rfl) Q3.nil (Q02.body k) (by kernel_rfl) (by kernel_rfl) (by kernel_rfl)
abbrev Qh.l0.σ : Type := QgS × Int × Int × QgM × Unit
abbrev Qh.l0.τ : Type := (ByteArray × Int × Unit) ⊕ QgL 
def Qh.l0.r (k : Nat) {ρ : Type} (x : Qh.l0.σ) (kn : Qh.l0.σ → Option ρ) (ke : Qh.l0.τ → Option ρ) : Option ρ :=
 bif (decide (x.2.2.1 < x.2.1)) then (bif (decide (((0 : Int) ≤ x.2.2.1) ∧ (x.2.2.1 < (((List.length x.1) : Nat) : Int)))) then (let v2 : ByteArray := (List.getD x.1 (Int.toNat x.2.2.1) (((List.replicate 32 (0 : Int)), ((0 : Int), ())), (ByteArray.empty, ((0 : Int), ())))).2.1
 bif (decide ((((ByteArray.size v2) : Nat) : Int) > (520 : Int))) then (ke (.inl ((⟨(List.toArray [])⟩ : ByteArray), ((100 : Int), ())))) else (let v3 : Int := (IntKind.wrap IntKind.i64 (x.2.2.1 + (1 : Int)))
 kn (x.1, (x.2.1, (v3, ((x.2.2.2.1.1, (x.2.2.2.1.2.1, (x.2.2.2.1.2.2.1, (x.2.2.2.1.2.2.2.1, ())))), ())))))) else (none)) else (ke (.inr ((x.2.2.2.1.1, (x.2.2.2.1.2.1, (x.2.2.2.1.2.2.1, (x.2.2.2.1.2.2.2.1, ())))), ())))
def Qh.l0 (k : Nat) : Nat → Qh.l0.σ → Option Qh.l0.τ := Q0Q (Qh.l0.r k)
def Qh.l0.T : StT := ⟨us 1 ++ .ptr 0 [] :: us 12 ++ .dat QgO :: .dat (.int .i64) :: .dat (.int .i64) :: us 88, [.dat QgF]⟩
def Qh.l0.os : List Out := [⟨.ret, [.mask [2, 3], .auto 0], ⟨us 2 ++ .dat .str :: .dat (.int .i64) :: us 101, []⟩⟩, ⟨(.exit 0), [.mask [1], .auto 0], ⟨us 1 ++ .ptr 0 [] :: us 103, [.dat QgF]⟩⟩]
abbrev Qh.l1.σ : Type := QgZ × Int × Int × QgM × Unit
abbrev Qh.l1.τ : Type := (ByteArray × Int × Unit) ⊕ QgL 
def Qh.l1.r (k : Nat) {ρ : Type} (x : Qh.l1.σ) (kn : Qh.l1.σ → Option ρ) (ke : Qh.l1.τ → Option ρ) : Option ρ :=
 bif (decide (x.2.2.1 < x.2.1)) then (bif (decide (((0 : Int) ≤ x.2.2.1) ∧ (x.2.2.1 < (((List.length x.1) : Nat) : Int)))) then (let v9 : ByteArray := (List.getD x.1 (Int.toNat x.2.2.1) ((0 : Int), (ByteArray.empty, ()))).2.1
 bif (decide ((((ByteArray.size v9) : Nat) : Int) > (520 : Int))) then (ke (.inl ((⟨(List.toArray [])⟩ : ByteArray), ((100 : Int), ())))) else (let v10 : Int := (IntKind.wrap IntKind.i64 (x.2.2.1 + (1 : Int)))
 kn (x.1, (x.2.1, (v10, ((x.2.2.2.1.1, (x.2.2.2.1.2.1, (x.2.2.2.1.2.2.1, (x.2.2.2.1.2.2.2.1, ())))), ())))))) else (none)) else (ke (.inr ((x.2.2.2.1.1, (x.2.2.2.1.2.1, (x.2.2.2.1.2.2.1, (x.2.2.2.1.2.2.2.1, ())))), ())))
def Qh.l1 (k : Nat) : Nat → Qh.l1.σ → Option Qh.l1.τ := Q0Q (Qh.l1.r k)
def Qh.l1.T : StT := ⟨us 1 ++ .ptr 0 [] :: us 24 ++ .dat QgV :: .dat (.int .i64) :: .dat (.int .i64) :: us 76, [.dat QgF]⟩
def Qh.l1.os : List Out := [⟨.ret, [.mask [2, 3], .auto 0], ⟨us 2 ++ .dat .str :: .dat (.int .i64) :: us 101, []⟩⟩, ⟨(.exit 2), [.mask [1], .auto 0], ⟨us 1 ++ .ptr 0 [] :: us 103, [.dat QgF]⟩⟩]
abbrev Qh.l2.σ : Type := QgS × Int × Int × QgM × Qh0 × (List Int) × Unit
abbrev Qh.l2.τ : Type := QgJ 
def Qh.l2.r (k : Nat) {ρ : Type} (x : Qh.l2.σ) (kn : Qh.l2.σ → Option ρ) (ke : Qh.l2.τ → Option ρ) : Option ρ :=
 bif (decide (x.2.2.1 < x.2.1)) then (bif (decide (((0 : Int) ≤ x.2.2.1) ∧ (x.2.2.1 < (((List.length x.1) : Nat) : Int)))) then (let v23 : (List Int) := (List.getD x.1 (Int.toNat x.2.2.1) (((List.replicate 32 (0 : Int)), ((0 : Int), ())), (ByteArray.empty, ((0 : Int), ())))).1.1
 (Q0j k v23 (((), ((), ())), ()) x.2.2.2.2.2.1).bind fun t24 => let v25 : Int := (List.getD x.1 (Int.toNat x.2.2.1) (((List.replicate 32 (0 : Int)), ((0 : Int), ())), (ByteArray.empty, ((0 : Int), ())))).1.2.1
 (Q0k k v25 (((), ((), ())), ()) t24.2.1).bind fun t26 => let v27 : ByteArray := (List.getD x.1 (Int.toNat x.2.2.1) (((List.replicate 32 (0 : Int)), ((0 : Int), ())), (ByteArray.empty, ((0 : Int), ())))).2.1
 (Q02 k v27 (((), ((), ())), ()) t26.2.1).bind fun t28 => let v29 : Int := (List.getD x.1 (Int.toNat x.2.2.1) (((List.replicate 32 (0 : Int)), ((0 : Int), ())), (ByteArray.empty, ((0 : Int), ())))).2.2.1
 (Q0k k v29 (((), ((), ())), ()) t28.2.1).bind fun t30 => let v31 : Int := (IntKind.wrap IntKind.i64 (x.2.2.1 + (1 : Int)))
 kn (x.1, (x.2.1, (v31, ((x.2.2.2.1.1, (x.2.2.2.1.2.1, (x.2.2.2.1.2.2.1, (x.2.2.2.1.2.2.2.1, ())))), ((((), ((), ())), ()), (t30.2.1, ()))))))) else (none)) else (ke ((x.2.2.2.1.1, (x.2.2.2.1.2.1, (x.2.2.2.1.2.2.1, (x.2.2.2.1.2.2.2.1, ())))), ((((), ((), ())), ()), (x.2.2.2.2.2.1, ()))))
def Qh.l2 (k : Nat) : Nat → Qh.l2.σ → Option Qh.l2.τ := Q0Q (Qh.l2.r k)
def Qh.l2.T : StT := ⟨us 1 ++ .ptr 0 [] :: us 6 ++ .ptr 1 [] :: us 43 ++ .dat QgO :: .dat (.int .i64) :: .dat (.int .i64) :: us 50, [.dat QgF, .pair (.pair (.sfp 1 [0] 180) (.pair (.vbs 2) (.dat .unit))) (.dat .unit), .vec (.int .u8)]⟩
def Qh.l2.os : List Out := [⟨(.exit 4), [.mask [1, 8], .auto 0], ⟨us 1 ++ .ptr 0 [] :: us 6 ++ .ptr 1 [] :: us 96, [.dat QgF, .pair (.pair (.sfp 1 [0] 180) (.pair (.vbs 2) (.dat .unit))) (.dat .unit), .vec (.int .u8)]⟩⟩]
abbrev Qh.l3.σ : Type := QgZ × Int × Int × QgM × Qh0 × (List Int) × Unit
abbrev Qh.l3.τ : Type := QgJ 
def Qh.l3.r (k : Nat) {ρ : Type} (x : Qh.l3.σ) (kn : Qh.l3.σ → Option ρ) (ke : Qh.l3.τ → Option ρ) : Option ρ :=
 bif (decide (x.2.2.1 < x.2.1)) then (bif (decide (((0 : Int) ≤ x.2.2.1) ∧ (x.2.2.1 < (((List.length x.1) : Nat) : Int)))) then (let v38 : Int := (List.getD x.1 (Int.toNat x.2.2.1) ((0 : Int), (ByteArray.empty, ()))).1
 (Q0c k v38 (((), ((), ())), ()) x.2.2.2.2.2.1).bind fun t39 => let v40 : ByteArray := (List.getD x.1 (Int.toNat x.2.2.1) ((0 : Int), (ByteArray.empty, ()))).2.1
 (Q02 k v40 (((), ((), ())), ()) t39.2.1).bind fun t41 => let v42 : Int := (IntKind.wrap IntKind.i64 (x.2.2.1 + (1 : Int)))
 kn (x.1, (x.2.1, (v42, ((x.2.2.2.1.1, (x.2.2.2.1.2.1, (x.2.2.2.1.2.2.1, (x.2.2.2.1.2.2.2.1, ())))), ((((), ((), ())), ()), (t41.2.1, ()))))))) else (none)) else (ke ((x.2.2.2.1.1, (x.2.2.2.1.2.1, (x.2.2.2.1.2.2.1, (x.2.2.2.1.2.2.2.1, ())))), ((((), ((), ())), ()), (x.2.2.2.2.2.1, ()))))
def Qh.l3 (k : Nat) : Nat → Qh.l3.σ → Option Qh.l3.τ := Q0Q (Qh.l3.r k)
def Qh.l3.T : StT := ⟨us 1 ++ .ptr 0 [] :: us 6 ++ .ptr 1 [] :: us 75 ++ .dat QgV :: .dat (.int .i64) :: .dat (.int .i64) :: us 18, [.dat QgF, .pair (.pair (.sfp 1 [0] 180) (.pair (.vbs 2) (.dat .unit))) (.dat .unit), .vec (.int .u8)]⟩
def Qh.l3.os : List Out := [⟨(.exit 6), [.mask [1, 8], .auto 0], ⟨us 1 ++ .ptr 0 [] :: us 6 ++ .ptr 1 [] :: us 96, [.dat QgF, .pair (.pair (.sfp 1 [0] 180) (.pair (.vbs 2) (.dat .unit))) (.dat .unit), .vec (.int .u8)]⟩⟩]
def Qh.c (k : Nat) {ρ : Type} (t : QgM) (K : ByteArray × Int × Unit → Option ρ) : Option ρ :=
 let v0 : QgS := t.2.1
 let v1 : Int := (((List.length v0) : Nat) : Int)
 (Qh.l0 k k (v0, (v1, ((0 : Int), ((t.1, (t.2.1, (t.2.2.1, (t.2.2.2.1, ())))), ()))))).bind fun t4 => (match t4 with | .inl t5 => (K (t5.1, (t5.2.1, ()))) | .inr (t6) => (let v7 : QgZ := t6.1.2.2.1
 let v8 : Int := (((List.length v7) : Nat) : Int)
 (Qh.l1 k k (v7, (v8, ((0 : Int), ((t6.1.1, (t6.1.2.1, (t6.1.2.2.1, (t6.1.2.2.2.1, ())))), ()))))).bind fun t11 => (match t11 with | .inl t12 => (K (t12.1, (t12.2.1, ()))) | .inr (t13) => ((Q0a k (t13.1.1, (t13.1.2.1, (t13.1.2.2.1, (t13.1.2.2.2.1, ()))))).bind fun t14 => bif (decide (t14.1 > (4096 : Int))) then (K ((⟨(List.toArray [])⟩ : ByteArray), ((101 : Int), ()))) else ((Q0s k ).bind fun t15 => let v16 : Int := t13.1.1
 (Q0k k v16 (((), ((), ())), ()) t15.2.1).bind fun t17 => let v18 : QgS := t13.1.2.1
 let v19 : Int := (((List.length v18) : Nat) : Int)
 (QZ k (IntKind.wrap IntKind.u64 v19) (((), ((), ())), ()) t17.2.1).bind fun t20 => let v21 : QgS := t13.1.2.1
 let v22 : Int := (((List.length v21) : Nat) : Int)
 (Qh.l2 k k (v21, (v22, ((0 : Int), ((t13.1.1, (t13.1.2.1, (t13.1.2.2.1, (t13.1.2.2.2.1, ())))), ((((), ((), ())), ()), (t20.2.1, ()))))))).bind fun t32 => let v33 : QgZ := t32.1.2.2.1
 let v34 : Int := (((List.length v33) : Nat) : Int)
 (QZ k (IntKind.wrap IntKind.u64 v34) (((), ((), ())), ()) t32.2.2.1).bind fun t35 => let v36 : QgZ := t32.1.2.2.1
 let v37 : Int := (((List.length v36) : Nat) : Int)
 (Qh.l3 k k (v36, (v37, ((0 : Int), ((t32.1.1, (t32.1.2.1, (t32.1.2.2.1, (t32.1.2.2.2.1, ())))), ((((), ((), ())), ()), (t35.2.1, ()))))))).bind fun t43 => let v44 : Int := t43.1.2.2.2.1
 (Q0k k v44 (((), ((), ())), ()) t43.2.2.1).bind fun t45 => (Q05 k (((), ((), ())), ()) t45.2.1).bind fun t46 => K (t46.1, ((0 : Int), ())))))))
def Qh (k : Nat) (t : QgM) : Option (ByteArray × Int × Unit) := Qh.c k t some
def Qh.tin : List Ty := [QgF]
def Qh.tout : List Ty := [.str, (.int .i64)]
def Qh.sem (k : Nat) : QY := Q04 Qh.tin Qh.tout fun x => Qh k x.1
noncomputable def Qh.ctx (k : Nat) : Ctx := ⟨Try.prog, gam [(45, (Q0a.sem k)), (76, (Q0s.sem k)), (77, (Q0k.sem k)), (78, (QZ.sem k)), (79, (Q0j.sem k)), (80, (Q02.sem k)), (81, (Q0c.sem k)), (82, (Q05.sem k))]⟩
theorem Qh.gok (k : Nat) : ∀ f, QG Try.prog f ((Qh.ctx k).Γ f) := (Qq (Q0a.sem_ok k) (Qq (Q0s.sem_ok k) (Qq (Q0k.sem_ok k) (Qq (QZ.sem_ok k) (Qq (Q0j.sem_ok k) (Qq (Q02.sem_ok k) (Qq (Q0c.sem_ok k) (Qq (Q05.sem_ok k) Q0e))))))))
theorem Qh.l0.round (k : Nat) : Q0L (Qh.ctx k) (QP (Func.code Try.f32) [1, 0, 1, 0, 0]) (.nil) Qh.l0.T [.mask [1, 14, 15, 16], .auto 0] Qh.l0.os (Qh.l0.r k) := by
 intro ρ x kn ke; kernel_rfl
theorem Qh.l0.ok (k : Nat) : StOK 0 Try.prog (.loop (QP (Func.code Try.f32) [1, 0, 1, 0, 0])) (Qx Qh.l0.T Qh.l0.os (Qh.l0 k k)) :=
 Q0M (C := Qh.ctx k) (Qh.gok k) Try.mix Q3.nil (by kernel_rfl) (by kernel_rfl) (by kernel_rfl) (Qh.l0.round k) k
theorem Qh.l1.round (k : Nat) : Q0L (Qh.ctx k) (QP (Func.code Try.f32) [1, 1, 0, 1, 0, 0]) (.nil) Qh.l1.T [.mask [1, 26, 27, 28], .auto 0] Qh.l1.os (Qh.l1.r k) := by
 intro ρ x kn ke; kernel_rfl
theorem Qh.l1.ok (k : Nat) : StOK 0 Try.prog (.loop (QP (Func.code Try.f32) [1, 1, 0, 1, 0, 0])) (Qx Qh.l1.T Qh.l1.os (Qh.l1 k k)) :=
 Q0M (C := Qh.ctx k) (Qh.gok k) Try.mix Q3.nil (by kernel_rfl) (by kernel_rfl) (by kernel_rfl) (Qh.l1.round k) k
theorem Qh.l2.round (k : Nat) : Q0L (Qh.ctx k) (QP (Func.code Try.f32) [1, 1, 1, 1, 1, 1, 1, 0, 1, 0, 0]) (.nil) Qh.l2.T [.mask [1, 8, 52, 53, 54], .auto 0] Qh.l2.os (Qh.l2.r k) := by
 intro ρ x kn ke; kernel_rfl
theorem Qh.l2.ok (k : Nat) : StOK 0 Try.prog (.loop (QP (Func.code Try.f32) [1, 1, 1, 1, 1, 1, 1, 0, 1, 0, 0])) (Qx Qh.l2.T Qh.l2.os (Qh.l2 k k)) :=
 Q0M (C := Qh.ctx k) (Qh.gok k) Try.mix Q3.nil (by kernel_rfl) (by kernel_rfl) (by kernel_rfl) (Qh.l2.round k) k
theorem Qh.l3.round (k : Nat) : Q0L (Qh.ctx k) (QP (Func.code Try.f32) [1, 1, 1, 1, 1, 1, 1, 1, 1, 0, 1, 0, 0]) (.nil) Qh.l3.T [.mask [1, 8, 84, 85, 86], .auto 0] Qh.l3.os (Qh.l3.r k) := by
 intro ρ x kn ke; kernel_rfl
theorem Qh.l3.ok (k : Nat) : StOK 0 Try.prog (.loop (QP (Func.code Try.f32) [1, 1, 1, 1, 1, 1, 1, 1, 1, 0, 1, 0, 0])) (Qx Qh.l3.T Qh.l3.os (Qh.l3 k k)) :=
 Q0M (C := Qh.ctx k) (Qh.gok k) Try.mix Q3.nil (by kernel_rfl) (by kernel_rfl) (by kernel_rfl) (Qh.l3.round k) k
def Qh.ann (k : Nat) : Ann := .node [] none (.nil) (.node [] none (.node [] none (.nil) (.node [] none (.node [.mask [1, 14, 15, 16], .auto 0] (some (Qx Qh.l0.T Qh.l0.os (Qh.l0 k k))) .nil .nil) (.nil))) (.node [] none (.node [] none (.nil) (.node [] none (.node [.mask [1, 26, 27, 28], .auto 0] (some (Qx Qh.l1.T Qh.l1.os (Qh.l1 k k))) .nil .nil) (.nil))) (.node [] none (.nil) (.node [] none (.nil) (.node [] none (.nil) (.node [] none (.nil) (.node [] none (.node [] none (.nil) (.node [] none (.node [.mask [1, 8, 52, 53, 54], .auto 0] (some (Qx Qh.l2.T Qh.l2.os (Qh.l2 k k))) .nil .nil) (.nil))) (.node [] none (.nil) (.node [] none (.node [] none (.nil) (.node [] none (.node [.mask [1, 8, 84, 85, 86], .auto 0] (some (Qx Qh.l3.T Qh.l3.os (Qh.l3 k k))) .nil .nil) (.nil))) (.nil))))))))))
theorem Qh.body (k : Nat) : Q0K (Qh.ctx k) Try.f32 (Func.code Try.f32) (Qh.ann k) Qh.tin Qh.tout (fun x K => Qh.c k x.1 K) := by
 intro ρ x K; kernel_rfl
theorem Qh.sem_ok (k : Nat) : QG Try.prog 32 (Qh.sem k) :=
 QT (C := Qh.ctx k) (Qh.gok k) Try.mix (c := Func.code Try.f32) (ann := Qh.ann k) (tin := Qh.tin) (tout := Qh.tout) (fun x K => Qh.c k x.1 K) Try.func32 (by kernel_rfl) (by kernel_rfl) (Q3.seq Q3.nil (Q3.seq (Q3.seq Q3.nil (Q3.block (Q3.loop (by kernel_rfl) (Qh.l0.ok k)))) (Q3.seq (Q3.seq Q3.nil (Q3.block (Q3.loop (by kernel_rfl) (Qh.l1.ok k)))) (Q3.seq Q3.nil (Q3.seq Q3.nil (Q3.seq Q3.nil (Q3.seq Q3.nil (Q3.seq (Q3.seq Q3.nil (Q3.block (Q3.loop (by kernel_rfl) (Qh.l2.ok k)))) (Q3.seq Q3.nil (Q3.seq (Q3.seq Q3.nil (Q3.block (Q3.loop (by kernel_rfl) (Qh.l3.ok k)))) Q3.nil)))))))))) (Qh.body k)
def Q0N.c (k : Nat) {ρ : Type} (s : ByteArray) (K : QgM × Int × Unit → Option ρ) : Option ρ :=
 (Qn k s (0 : Int)).bind fun t0 => let v1 : Int := t0.2.1
 let v2 : Int := t0.2.2.1
 bif (v2 != (0 : Int)) then (K (((0 : Int), ([], ([], ((0 : Int), ())))), (v2, ()))) else (bif (v1 != (((ByteArray.size s) : Nat) : Int)) then (K (((0 : Int), ([], ([], ((0 : Int), ())))), ((5 : Int), ()))) else (K ((t0.1.1, (t0.1.2.1, (t0.1.2.2.1, (t0.1.2.2.2.1, ())))), ((0 : Int), ()))))
def Q0N (k : Nat) (s : ByteArray) : Option (QgM × Int × Unit) := Q0N.c k s some
def Q0N.tin : List Ty := [.str]
def Q0N.tout : List Ty := [QgF, (.int .i64)]
def Q0N.sem (k : Nat) : QY := Q04 Q0N.tin Q0N.tout fun x => Q0N k x.1
noncomputable def Q0N.ctx (k : Nat) : Ctx := ⟨Try.prog, gam [(19, (Qn.sem k))]⟩
theorem Q0N.gok (k : Nat) : ∀ f, QG Try.prog f ((Q0N.ctx k).Γ f) := (Qq (Qn.sem_ok k) Q0e)
def Q0N.ann (k : Nat) : Ann := .nil
theorem Q0N.body (k : Nat) : Q0K (Q0N.ctx k) Try.f24 (Func.code Try.f24) (Q0N.ann k) Q0N.tin Q0N.tout (fun x K => Q0N.c k x.1 K) := by
 intro ρ x K; kernel_rfl
theorem Q0N.sem_ok (k : Nat) : QG Try.prog 24 (Q0N.sem k) :=
 QT (C := Q0N.ctx k) (Q0N.gok k) Try.mix (c := Func.code Try.f24) (ann := Q0N.ann k) (tin := Q0N.tin) (tout := Q0N.tout) (fun x K => Q0N.c k x.1 K) Try.func24 (by kernel_rfl) (by kernel_rfl) Q3.nil (Q0N.body k)
def QJ.c (k : Nat) {ρ : Type}  (K : Bool × Unit → Option ρ) : Option ρ :=
 (Qh k ((1 : Int), ((List.set (List.replicate 1 (((List.replicate 32 (0 : Int)), ((0 : Int), ())), (ByteArray.empty, ((0 : Int), ())))) 0 (((List.replicate 32 (0 : Int)), ((0 : Int), ())), ((⟨(List.toArray [107])⟩ : ByteArray), ((0 : Int), ())))), ((List.set (List.replicate 1 ((0 : Int), (ByteArray.empty, ()))) 0 ((5 : Int), ((⟨(List.toArray [])⟩ : ByteArray), ()))), ((0 : Int), ()))))).bind fun t0 => let v1 : ByteArray := t0.1
 let v2 : Int := t0.2.1
 (Q0N k v1).bind fun t3 => let v4 : Int := t3.2.1
 bif (v2 == (0 : Int)) then (bif (v4 == (0 : Int)) then (bif ((((ByteArray.size v1) : Nat) : Int) == (61 : Int)) then (let v5 : QgZ := t3.1.2.2.1
 bif (decide (((0 : Int) ≤ (0 : Int)) ∧ ((0 : Int) < (((List.length v5) : Nat) : Int)))) then (let v6 : Int := (List.getD v5 0 ((0 : Int), (ByteArray.empty, ()))).1
 K ((v6 == (5 : Int)), ())) else (none)) else (K (false, ()))) else (K (false, ()))) else (K (false, ()))
def QJ (k : Nat)  : Option (Bool × Unit) := QJ.c k  some
def QJ.tin : List Ty := []
def QJ.tout : List Ty := [.bool]
def QJ.sem (k : Nat) : QY := Q04 QJ.tin QJ.tout fun x => QJ k 
noncomputable def QJ.ctx (k : Nat) : Ctx := ⟨Try.prog, gam [(32, (Qh.sem k)), (24, (Q0N.sem k))]⟩
theorem QJ.gok (k : Nat) : ∀ f, QG Try.prog f ((QJ.ctx k).Γ f) := (Qq (Qh.sem_ok k) (Qq (Q0N.sem_ok k) Q0e))
def QJ.ann (k : Nat) : Ann := .nil
theorem QJ.body (k : Nat) : Q0K (QJ.ctx k) Try.f21 (Func.code Try.f21) (QJ.ann k) QJ.tin QJ.tout (fun x K => QJ.c k  K) := by
 intro ρ x K; kernel_rfl
theorem QJ.sem_ok (k : Nat) : QG Try.prog 21 (QJ.sem k) :=
 QT (C := QJ.ctx k) (QJ.gok k) Try.mix (c := Func.code Try.f21) (ann := QJ.ann k) (tin := QJ.tin) (tout := QJ.tout) (fun x K => QJ.c k  K) Try.func21 (by kernel_rfl) (by kernel_rfl) Q3.nil (QJ.body k)
abbrev Q6.l0.σ : Type := QgS × Int × Int × QgM × QgX × QgX × QgT × Unit
abbrev Q6.l0.τ : Type := (QgM × QgX × QgX × QgT × Unit)
def Q6.l0.r (k : Nat) {ρ : Type} (x : Q6.l0.σ) (kn : Q6.l0.σ → Option ρ) (ke : Q6.l0.τ → Option ρ) : Option ρ :=
 bif (decide (x.2.2.1 < x.2.1)) then (bif (decide (((0 : Int) ≤ x.2.2.1) ∧ (x.2.2.1 < (((List.length x.1) : Nat) : Int)))) then (let v4 : (List Int) := (List.getD x.1 (Int.toNat x.2.2.1) (((List.replicate 32 (0 : Int)), ((0 : Int), ())), (ByteArray.empty, ((0 : Int), ())))).1.1
 let v5 : Int := (List.getD x.1 (Int.toNat x.2.2.1) (((List.replicate 32 (0 : Int)), ((0 : Int), ())), (ByteArray.empty, ((0 : Int), ())))).1.2.1
 let v6 : ByteArray := (List.getD x.1 (Int.toNat x.2.2.1) (((List.replicate 32 (0 : Int)), ((0 : Int), ())), (ByteArray.empty, ((0 : Int), ())))).2.1
 let v7 : Int := (List.getD x.1 (Int.toNat x.2.2.1) (((List.replicate 32 (0 : Int)), ((0 : Int), ())), (ByteArray.empty, ((0 : Int), ())))).2.2.1
 bif (Nat.ble (((List.length x.2.2.2.2.2.2.1) + (List.length (List.set (List.replicate 1 ((List.replicate 32 (0 : Int)), ((0 : Int), (ByteArray.empty, ((0 : Int), ()))))) 0 (v4, (v5, (v6, (v7, ()))))))) * 64) 140737488355328) then (let v8 : Int := (IntKind.wrap IntKind.i64 (x.2.2.1 + (1 : Int)))
 kn (x.1, (x.2.1, (v8, ((x.2.2.2.1.1, (x.2.2.2.1.2.1, (x.2.2.2.1.2.2.1, (x.2.2.2.1.2.2.2.1, ())))), ((x.2.2.2.2.1.1, ((), ((), (x.2.2.2.2.1.2.2.2.1, ())))), ((x.2.2.2.2.2.1.1, ((), ((), (x.2.2.2.2.2.1.2.2.2.1, ())))), ((x.2.2.2.2.2.2.1 ++ (List.set (List.replicate 1 ((List.replicate 32 (0 : Int)), ((0 : Int), (ByteArray.empty, ((0 : Int), ()))))) 0 (v4, (v5, (v6, (v7, ())))))), ())))))))) else (none)) else (none)) else (ke ((x.2.2.2.1.1, (x.2.2.2.1.2.1, (x.2.2.2.1.2.2.1, (x.2.2.2.1.2.2.2.1, ())))), ((x.2.2.2.2.1.1, ((), ((), (x.2.2.2.2.1.2.2.2.1, ())))), ((x.2.2.2.2.2.1.1, ((), ((), (x.2.2.2.2.2.1.2.2.2.1, ())))), (x.2.2.2.2.2.2.1, ())))))
def Q6.l0 (k : Nat) : Nat → Q6.l0.σ → Option Q6.l0.τ := Q0Q (Q6.l0.r k)
def Q6.l0.T : StT := ⟨us 1 ++ .ptr 0 [] :: .ptr 1 [] :: .ptr 2 [] :: us 10 ++ .dat QgO :: .dat (.int .i64) :: .dat (.int .i64) :: us 35, [.dat QgF, .pair (.dat (.int .u32)) (.pair (.nils) (.pair (.nils) (.dat Qh1))), .pair (.dat (.int .u32)) (.pair (.vsl 3) (.pair (.nils) (.dat Qh1))), .vec QgQ]⟩
def Q6.l0.os : List Out := [⟨(.exit 0), [.mask [1, 2, 3], .auto 0], ⟨us 1 ++ .ptr 0 [] :: .ptr 1 [] :: .ptr 2 [] :: us 48, [.dat QgF, .pair (.dat (.int .u32)) (.pair (.nils) (.pair (.nils) (.dat Qh1))), .pair (.dat (.int .u32)) (.pair (.vsl 3) (.pair (.nils) (.dat Qh1))), .vec QgQ]⟩⟩]
abbrev Q6.l1.σ : Type := QgZ × Int × Int × QgX × QgX × QgT × QgZ × Unit
abbrev Q6.l1.τ : Type := (QgX × QgX × QgT × QgZ × Unit)
def Q6.l1.r (k : Nat) {ρ : Type} (x : Q6.l1.σ) (kn : Q6.l1.σ → Option ρ) (ke : Q6.l1.τ → Option ρ) : Option ρ :=
 bif (decide (x.2.2.1 < x.2.1)) then (bif (decide (((0 : Int) ≤ x.2.2.1) ∧ (x.2.2.1 < (((List.length x.1) : Nat) : Int)))) then (bif (Nat.ble (((List.length x.2.2.2.2.2.2.1) + (List.length (List.set (List.replicate 1 ((0 : Int), (ByteArray.empty, ()))) 0 ((List.getD x.1 (Int.toNat x.2.2.1) ((0 : Int), (ByteArray.empty, ()))).1, ((List.getD x.1 (Int.toNat x.2.2.1) ((0 : Int), (ByteArray.empty, ()))).2.1, ()))))) * 24) 140737488355328) then (let v12 : Int := (IntKind.wrap IntKind.i64 (x.2.2.1 + (1 : Int)))
 kn (x.1, (x.2.1, (v12, ((x.2.2.2.1.1, ((), ((), (x.2.2.2.1.2.2.2.1, ())))), ((x.2.2.2.2.1.1, ((), ((), (x.2.2.2.2.1.2.2.2.1, ())))), (x.2.2.2.2.2.1, ((x.2.2.2.2.2.2.1 ++ (List.set (List.replicate 1 ((0 : Int), (ByteArray.empty, ()))) 0 ((List.getD x.1 (Int.toNat x.2.2.1) ((0 : Int), (ByteArray.empty, ()))).1, ((List.getD x.1 (Int.toNat x.2.2.1) ((0 : Int), (ByteArray.empty, ()))).2.1, ())))), ())))))))) else (none)) else (none)) else (ke ((x.2.2.2.1.1, ((), ((), (x.2.2.2.1.2.2.2.1, ())))), ((x.2.2.2.2.1.1, ((), ((), (x.2.2.2.2.1.2.2.2.1, ())))), (x.2.2.2.2.2.1, (x.2.2.2.2.2.2.1, ())))))
def Q6.l1 (k : Nat) : Nat → Q6.l1.σ → Option Q6.l1.τ := Q0Q (Q6.l1.r k)
def Q6.l1.T : StT := ⟨us 2 ++ .ptr 0 [] :: .ptr 1 [] :: us 34 ++ .dat QgV :: .dat (.int .i64) :: .dat (.int .i64) :: us 11, [.pair (.dat (.int .u32)) (.pair (.nils) (.pair (.nils) (.dat Qh1))), .pair (.dat (.int .u32)) (.pair (.vsl 2) (.pair (.vsl 3) (.dat Qh1))), .vec QgQ, .vec QgY]⟩
def Q6.l1.os : List Out := [⟨(.exit 2), [.mask [2, 3], .auto 0], ⟨us 2 ++ .ptr 0 [] :: .ptr 1 [] :: us 48, [.pair (.dat (.int .u32)) (.pair (.nils) (.pair (.nils) (.dat Qh1))), .pair (.dat (.int .u32)) (.pair (.vsl 2) (.pair (.vsl 3) (.dat Qh1))), .vec QgQ, .vec QgY]⟩⟩]
def Q6.c (k : Nat) {ρ : Type} (t : QgM) (K : QgN × Unit → Option ρ) : Option ρ :=
 let v0 : Int := t.1
 let v1 : Int := t.2.2.2.1
 let v2 : QgS := t.2.1
 let v3 : Int := (((List.length v2) : Nat) : Int)
 (Q6.l0 k k (v2, (v3, ((0 : Int), ((t.1, (t.2.1, (t.2.2.1, (t.2.2.2.1, ())))), (((0 : Int), ((), ((), ((0 : Int), ())))), ((v0, ((), ((), (v1, ())))), ([], ())))))))).bind fun t9 => let v10 : QgZ := t9.1.2.2.1
 let v11 : Int := (((List.length v10) : Nat) : Int)
 (Q6.l1 k k (v10, (v11, ((0 : Int), ((t9.2.1.1, ((), ((), (t9.2.1.2.2.2.1, ())))), ((t9.2.2.1.1, ((), ((), (t9.2.2.1.2.2.2.1, ())))), (t9.2.2.2.1, ([], ())))))))).bind fun t13 => K ((t13.2.1.1, (t13.2.2.1, (t13.2.2.2.1, (t13.2.1.2.2.2.1, ())))), ())
def Q6 (k : Nat) (t : QgM) : Option (QgN × Unit) := Q6.c k t some
def Q6.tin : List Ty := [QgF]
def Q6.tout : List Ty := [QgH]
def Q6.sem (k : Nat) : QY := Q04 Q6.tin Q6.tout fun x => Q6 k x.1
noncomputable def Q6.ctx (k : Nat) : Ctx := ⟨Try.prog, gam []⟩
theorem Q6.gok (k : Nat) : ∀ f, QG Try.prog f ((Q6.ctx k).Γ f) := Q0e
theorem Q6.l0.round (k : Nat) : Q0L (Q6.ctx k) (QP (Func.code Try.f23) [1, 1, 0, 1, 0, 0]) (.nil) Q6.l0.T [.mask [1, 2, 3, 14, 15, 16], .auto 0] Q6.l0.os (Q6.l0.r k) := by
 intro ρ x kn ke; kernel_rfl
theorem Q6.l0.ok (k : Nat) : StOK 0 Try.prog (.loop (QP (Func.code Try.f23) [1, 1, 0, 1, 0, 0])) (Qx Q6.l0.T Q6.l0.os (Q6.l0 k k)) :=
 Q0M (C := Q6.ctx k) (Q6.gok k) Try.mix Q3.nil (by kernel_rfl) (by kernel_rfl) (by kernel_rfl) (Q6.l0.round k) k
theorem Q6.l1.round (k : Nat) : Q0L (Q6.ctx k) (QP (Func.code Try.f23) [1, 1, 1, 0, 1, 0, 0]) (.nil) Q6.l1.T [.mask [2, 3, 38, 39, 40], .auto 0] Q6.l1.os (Q6.l1.r k) := by
 intro ρ x kn ke; kernel_rfl
theorem Q6.l1.ok (k : Nat) : StOK 0 Try.prog (.loop (QP (Func.code Try.f23) [1, 1, 1, 0, 1, 0, 0])) (Qx Q6.l1.T Q6.l1.os (Q6.l1 k k)) :=
 Q0M (C := Q6.ctx k) (Q6.gok k) Try.mix Q3.nil (by kernel_rfl) (by kernel_rfl) (by kernel_rfl) (Q6.l1.round k) k
def Q6.ann (k : Nat) : Ann := .node [] none (.nil) (.node [] none (.nil) (.node [] none (.node [] none (.nil) (.node [] none (.node [.mask [1, 2, 3, 14, 15, 16], .auto 0, .own (.blk 2 [1]) QgQ] (some (Qx Q6.l0.T Q6.l0.os (Q6.l0 k k))) .nil .nil) (.nil))) (.node [] none (.node [] none (.nil) (.node [] none (.node [.mask [2, 3, 38, 39, 40], .auto 0, .own (.blk 1 [2]) QgY] (some (Qx Q6.l1.T Q6.l1.os (Q6.l1 k k))) .nil .nil) (.nil))) (.nil))))
theorem Q6.body (k : Nat) : Q0K (Q6.ctx k) Try.f23 (Func.code Try.f23) (Q6.ann k) Q6.tin Q6.tout (fun x K => Q6.c k x.1 K) := by
 intro ρ x K; kernel_rfl
theorem Q6.sem_ok (k : Nat) : QG Try.prog 23 (Q6.sem k) :=
 QT (C := Q6.ctx k) (Q6.gok k) Try.mix (c := Func.code Try.f23) (ann := Q6.ann k) (tin := Q6.tin) (tout := Q6.tout) (fun x K => Q6.c k x.1 K) Try.func23 (by kernel_rfl) (by kernel_rfl) (Q3.seq Q3.nil (Q3.seq Q3.nil (Q3.seq (Q3.seq Q3.nil (Q3.block (Q3.loop (by kernel_rfl) (Q6.l0.ok k)))) (Q3.seq (Q3.seq Q3.nil (Q3.block (Q3.loop (by kernel_rfl) (Q6.l1.ok k)))) Q3.nil)))) (Q6.body k)
abbrev Q4.p0.σ : Type := QgN × QgN × Unit
abbrev Q4.p0.τ : Type := (Bool × Unit) ⊕ QgC 
def Q4.p0.r (k : Nat) {ρ : Type} (x : Q4.p0.σ) (K : Q4.p0.τ → Option ρ) : Option ρ :=
 let v0 : Int := x.1.1
 let v1 : Int := x.2.1.1
 bif (v0 != v1) then (K (.inl (false, ()))) else (let v2 : Int := x.1.2.2.2.1
 let v3 : Int := x.2.1.2.2.2.1
 bif (v2 != v3) then (K (.inl (false, ()))) else (let v4 : QgT := x.1.2.1
 let v5 : Int := (((List.length v4) : Nat) : Int)
 let v6 : QgT := x.2.1.2.1
 let v7 : Int := (((List.length v6) : Nat) : Int)
 bif (v5 != v7) then (K (.inl (false, ()))) else (let v8 : QgZ := x.1.2.2.1
 let v9 : Int := (((List.length v8) : Nat) : Int)
 let v10 : QgZ := x.2.1.2.2.1
 let v11 : Int := (((List.length v10) : Nat) : Int)
 bif (v9 != v11) then (K (.inl (false, ()))) else (K (.inr ((x.1.1, (x.1.2.1, (x.1.2.2.1, (x.1.2.2.2.1, ())))), ((x.2.1.1, (x.2.1.2.1, (x.2.1.2.2.1, (x.2.1.2.2.2.1, ())))), ())))))))
def Q4.p0 (k : Nat) (x : Q4.p0.σ) : Option Q4.p0.τ := Q4.p0.r k x some
def Q4.p0.T : StT := ⟨us 2 ++ .ptr 0 [] :: .ptr 1 [] :: us 69, [.dat QgH, .dat QgH]⟩
def Q4.p0.os : List Out := [⟨.ret, [.mask [4], .auto 0], ⟨us 4 ++ .dat .bool :: us 68, []⟩⟩, ⟨.normal, [.mask [2, 3], .auto 0], ⟨us 2 ++ .ptr 0 [] :: .ptr 1 [] :: us 69, [.dat QgH, .dat QgH]⟩⟩]
abbrev Q4.l1.σ : Type := Int × Int × QgN × QgN × Unit
abbrev Q4.l1.τ : Type := (Bool × Unit) ⊕ QgC 
def Q4.l1.r (k : Nat) {ρ : Type} (x : Q4.l1.σ) (kn : Q4.l1.σ → Option ρ) (ke : Q4.l1.τ → Option ρ) : Option ρ :=
 bif (decide (x.2.1 < x.1)) then (let v17 : QgT := x.2.2.1.2.1
 bif (decide (((0 : Int) ≤ x.2.1) ∧ (x.2.1 < (((List.length v17) : Nat) : Int)))) then (let v18 : QgT := x.2.2.2.1.2.1
 bif (decide (((0 : Int) ≤ x.2.1) ∧ (x.2.1 < (((List.length v18) : Nat) : Int)))) then (bif (!((decide ((List.getD v17 (Int.toNat x.2.1) ((List.replicate 32 (0 : Int)), ((0 : Int), (ByteArray.empty, ((0 : Int), ()))))).1 = (List.getD v18 (Int.toNat x.2.1) ((List.replicate 32 (0 : Int)), ((0 : Int), (ByteArray.empty, ((0 : Int), ()))))).1)) && (((List.getD v17 (Int.toNat x.2.1) ((List.replicate 32 (0 : Int)), ((0 : Int), (ByteArray.empty, ((0 : Int), ()))))).2.1 == (List.getD v18 (Int.toNat x.2.1) ((List.replicate 32 (0 : Int)), ((0 : Int), (ByteArray.empty, ((0 : Int), ()))))).2.1) && ((Q25 (List.getD v17 (Int.toNat x.2.1) ((List.replicate 32 (0 : Int)), ((0 : Int), (ByteArray.empty, ((0 : Int), ()))))).2.2.1 (List.getD v18 (Int.toNat x.2.1) ((List.replicate 32 (0 : Int)), ((0 : Int), (ByteArray.empty, ((0 : Int), ()))))).2.2.1) && (((List.getD v17 (Int.toNat x.2.1) ((List.replicate 32 (0 : Int)), ((0 : Int), (ByteArray.empty, ((0 : Int), ()))))).2.2.2.1 == (List.getD v18 (Int.toNat x.2.1) ((List.replicate 32 (0 : Int)), ((0 : Int), (ByteArray.empty, ((0 : Int), ()))))).2.2.2.1) && true))))) then (ke (.inl (false, ()))) else (let v19 : Int := (IntKind.wrap IntKind.i64 (x.2.1 + (1 : Int)))
 kn (x.1, (v19, ((x.2.2.1.1, (x.2.2.1.2.1, (x.2.2.1.2.2.1, (x.2.2.1.2.2.2.1, ())))), ((x.2.2.2.1.1, (x.2.2.2.1.2.1, (x.2.2.2.1.2.2.1, (x.2.2.2.1.2.2.2.1, ())))), ())))))) else (none)) else (none)) else (ke (.inr ((x.2.2.1.1, (x.2.2.1.2.1, (x.2.2.1.2.2.1, (x.2.2.1.2.2.2.1, ())))), ((x.2.2.2.1.1, (x.2.2.2.1.2.1, (x.2.2.2.1.2.2.1, (x.2.2.2.1.2.2.2.1, ())))), ()))))
def Q4.l1 (k : Nat) : Nat → Q4.l1.σ → Option Q4.l1.τ := Q0Q (Q4.l1.r k)
def Q4.l1.T : StT := ⟨us 2 ++ .ptr 0 [] :: .ptr 1 [] :: us 35 ++ .dat (.int .i64) :: .dat (.int .i64) :: us 32, [.dat QgH, .dat QgH]⟩
def Q4.l1.os : List Out := [⟨.ret, [.mask [4], .auto 0], ⟨us 4 ++ .dat .bool :: us 68, []⟩⟩, ⟨(.exit 0), [.mask [2, 3], .auto 0], ⟨us 2 ++ .ptr 0 [] :: .ptr 1 [] :: us 69, [.dat QgH, .dat QgH]⟩⟩]
abbrev Q4.l2.σ : Type := Int × Int × QgN × QgN × Unit
abbrev Q4.l2.τ : Type := (Bool × Unit) ⊕ (Unit)
def Q4.l2.r (k : Nat) {ρ : Type} (x : Q4.l2.σ) (kn : Q4.l2.σ → Option ρ) (ke : Q4.l2.τ → Option ρ) : Option ρ :=
 bif (decide (x.2.1 < x.1)) then (let v25 : QgZ := x.2.2.1.2.2.1
 bif (decide (((0 : Int) ≤ x.2.1) ∧ (x.2.1 < (((List.length v25) : Nat) : Int)))) then (let v26 : QgZ := x.2.2.2.1.2.2.1
 bif (decide (((0 : Int) ≤ x.2.1) ∧ (x.2.1 < (((List.length v26) : Nat) : Int)))) then (bif (!(((List.getD v25 (Int.toNat x.2.1) ((0 : Int), (ByteArray.empty, ()))).1 == (List.getD v26 (Int.toNat x.2.1) ((0 : Int), (ByteArray.empty, ()))).1) && ((Q25 (List.getD v25 (Int.toNat x.2.1) ((0 : Int), (ByteArray.empty, ()))).2.1 (List.getD v26 (Int.toNat x.2.1) ((0 : Int), (ByteArray.empty, ()))).2.1) && true))) then (ke (.inl (false, ()))) else (let v27 : Int := (IntKind.wrap IntKind.i64 (x.2.1 + (1 : Int)))
 kn (x.1, (v27, ((x.2.2.1.1, (x.2.2.1.2.1, (x.2.2.1.2.2.1, (x.2.2.1.2.2.2.1, ())))), ((x.2.2.2.1.1, (x.2.2.2.1.2.1, (x.2.2.2.1.2.2.1, (x.2.2.2.1.2.2.2.1, ())))), ())))))) else (none)) else (none)) else (ke (.inr ()))
def Q4.l2 (k : Nat) : Nat → Q4.l2.σ → Option Q4.l2.τ := Q0Q (Q4.l2.r k)
def Q4.l2.T : StT := ⟨us 2 ++ .ptr 0 [] :: .ptr 1 [] :: us 53 ++ .dat (.int .i64) :: .dat (.int .i64) :: us 14, [.dat QgH, .dat QgH]⟩
def Q4.l2.os : List Out := [⟨.ret, [.mask [4], .auto 0], ⟨us 4 ++ .dat .bool :: us 68, []⟩⟩, ⟨(.exit 2), [.mask [], .auto 0], ⟨us 73, []⟩⟩]
def Q4.c (k : Nat) {ρ : Type} (a : QgN) (b : QgN) (K : Bool × Unit → Option ρ) : Option ρ :=
 (Q4.p0 k ((a.1, (a.2.1, (a.2.2.1, (a.2.2.2.1, ())))), ((b.1, (b.2.1, (b.2.2.1, (b.2.2.2.1, ())))), ()))).bind fun t12 => (match t12 with | .inl t13 => (K (t13.1, ())) | .inr (t14) => (let v15 : QgT := t14.1.2.1
 let v16 : Int := (((List.length v15) : Nat) : Int)
 (Q4.l1 k k (v16, ((0 : Int), ((t14.1.1, (t14.1.2.1, (t14.1.2.2.1, (t14.1.2.2.2.1, ())))), ((t14.2.1.1, (t14.2.1.2.1, (t14.2.1.2.2.1, (t14.2.1.2.2.2.1, ())))), ()))))).bind fun t20 => (match t20 with | .inl t21 => (K (t21.1, ())) | .inr (t22) => (let v23 : QgZ := t22.1.2.2.1
 let v24 : Int := (((List.length v23) : Nat) : Int)
 (Q4.l2 k k (v24, ((0 : Int), ((t22.1.1, (t22.1.2.1, (t22.1.2.2.1, (t22.1.2.2.2.1, ())))), ((t22.2.1.1, (t22.2.1.2.1, (t22.2.1.2.2.1, (t22.2.1.2.2.2.1, ())))), ()))))).bind fun t28 => (match t28 with | .inl t29 => (K (t29.1, ())) | .inr (t30) => (K (true, ())))))))
def Q4 (k : Nat) (a : QgN) (b : QgN) : Option (Bool × Unit) := Q4.c k a b some
def Q4.tin : List Ty := [QgH, QgH]
def Q4.tout : List Ty := [.bool]
def Q4.sem (k : Nat) : QY := Q04 Q4.tin Q4.tout fun x => Q4 k x.1 x.2.1
noncomputable def Q4.ctx (k : Nat) : Ctx := ⟨Try.prog, gam []⟩
theorem Q4.gok (k : Nat) : ∀ f, QG Try.prog f ((Q4.ctx k).Γ f) := Q0e
theorem Q4.p0.is (k : Nat) : Q1E (Q4.ctx k) (QP (Func.code Try.f22) [1, 0]) (.nil) Q4.p0.T Q4.p0.os (Q4.p0.r k) := by
 intro ρ x K; kernel_rfl
theorem Q4.p0.ok (k : Nat) : StOK 0 Try.prog (QP (Func.code Try.f22) [1, 0]) (Qx Q4.p0.T Q4.p0.os (Q4.p0 k)) :=
 Q1r (C := Q4.ctx k) (T := Q4.p0.T) (os := Q4.p0.os) (Q4.gok k) Try.mix (fun x K => Q4.p0.r k x K) Q3.nil (by kernel_rfl) (by kernel_rfl) (Q4.p0.is k)
theorem Q4.l1.round (k : Nat) : Q0L (Q4.ctx k) (QP (Func.code Try.f22) [1, 1, 0, 1, 0, 0]) (.nil) Q4.l1.T [.mask [2, 3, 39, 40], .auto 0] Q4.l1.os (Q4.l1.r k) := by
 intro ρ x kn ke; kernel_rfl
theorem Q4.l1.ok (k : Nat) : StOK 0 Try.prog (.loop (QP (Func.code Try.f22) [1, 1, 0, 1, 0, 0])) (Qx Q4.l1.T Q4.l1.os (Q4.l1 k k)) :=
 Q0M (C := Q4.ctx k) (Q4.gok k) Try.mix Q3.nil (by kernel_rfl) (by kernel_rfl) (by kernel_rfl) (Q4.l1.round k) k
theorem Q4.l2.round (k : Nat) : Q0L (Q4.ctx k) (QP (Func.code Try.f22) [1, 1, 1, 0, 1, 0, 0]) (.nil) Q4.l2.T [.mask [2, 3, 57, 58], .auto 0] Q4.l2.os (Q4.l2.r k) := by
 intro ρ x kn ke; kernel_rfl
theorem Q4.l2.ok (k : Nat) : StOK 0 Try.prog (.loop (QP (Func.code Try.f22) [1, 1, 1, 0, 1, 0, 0])) (Qx Q4.l2.T Q4.l2.os (Q4.l2 k k)) :=
 Q0M (C := Q4.ctx k) (Q4.gok k) Try.mix Q3.nil (by kernel_rfl) (by kernel_rfl) (by kernel_rfl) (Q4.l2.round k) k
def Q4.ann (k : Nat) : Ann := .node [] none (.nil) (.node [] none (.node [.mask [2, 3], .auto 0] (some (Qx Q4.p0.T Q4.p0.os (Q4.p0 k))) .nil .nil) (.node [] none (.node [] none (.nil) (.node [] none (.node [.mask [2, 3, 39, 40], .auto 0] (some (Qx Q4.l1.T Q4.l1.os (Q4.l1 k k))) .nil .nil) (.nil))) (.node [] none (.node [] none (.nil) (.node [] none (.node [.mask [2, 3, 57, 58], .auto 0] (some (Qx Q4.l2.T Q4.l2.os (Q4.l2 k k))) .nil .nil) (.nil))) (.nil))))
theorem Q4.body (k : Nat) : Q0K (Q4.ctx k) Try.f22 (Func.code Try.f22) (Q4.ann k) Q4.tin Q4.tout (fun x K => Q4.c k x.1 x.2.1 K) := by
 intro ρ x K; kernel_rfl
theorem Q4.sem_ok (k : Nat) : QG Try.prog 22 (Q4.sem k) :=
 QT (C := Q4.ctx k) (Q4.gok k) Try.mix (c := Func.code Try.f22) (ann := Q4.ann k) (tin := Q4.tin) (tout := Q4.tout) (fun x K => Q4.c k x.1 x.2.1 K) Try.func22 (by kernel_rfl) (by kernel_rfl) (Q3.seq Q3.nil (Q3.seq (Q3.loop (by kernel_rfl) (Q4.p0.ok k)) (Q3.seq (Q3.seq Q3.nil (Q3.block (Q3.loop (by kernel_rfl) (Q4.l1.ok k)))) (Q3.seq (Q3.seq Q3.nil (Q3.block (Q3.loop (by kernel_rfl) (Q4.l2.ok k)))) Q3.nil)))) (Q4.body k)
abbrev Qk.p0.σ : Type := ByteArray × Int × Int × Int × Int × QgM × QgN × Unit
abbrev Qk.p0.τ : Type := (Bool × Unit) ⊕ (ByteArray × QgM × QgN × Unit)
def Qk.p0.r (k : Nat) {ρ : Type} (x : Qk.p0.σ) (K : Qk.p0.τ → Option ρ) : Option ρ :=
 (QJ k ).bind fun t6 => bif (!t6.1) then (K (.inl (false, ()))) else ((Q6 k (x.2.2.2.2.2.1.1, (x.2.2.2.2.2.1.2.1, (x.2.2.2.2.2.1.2.2.1, (x.2.2.2.2.2.1.2.2.2.1, ()))))).bind fun t7 => (Q4 k (t7.1.1, (t7.1.2.1, (t7.1.2.2.1, (t7.1.2.2.2.1, ())))) (x.2.2.2.2.2.2.1.1, (x.2.2.2.2.2.2.1.2.1, (x.2.2.2.2.2.2.1.2.2.1, (x.2.2.2.2.2.2.1.2.2.2.1, ()))))).bind fun t8 => bif (!t8.1) then (K (.inl (false, ()))) else (bif (x.2.1 != x.2.2.2.1) then (K (.inl (false, ()))) else (bif (x.2.2.1 != x.2.2.2.2.1) then (K (.inl (false, ()))) else (K (.inr (x.1, ((x.2.2.2.2.2.1.1, (x.2.2.2.2.2.1.2.1, (x.2.2.2.2.2.1.2.2.1, (x.2.2.2.2.2.1.2.2.2.1, ())))), ((x.2.2.2.2.2.2.1.1, (x.2.2.2.2.2.2.1.2.1, (x.2.2.2.2.2.2.1.2.2.1, (x.2.2.2.2.2.2.1.2.2.2.1, ())))), ()))))))))
def Qk.p0 (k : Nat) (x : Qk.p0.σ) : Option Qk.p0.τ := Qk.p0.r k x some
def Qk.p0.T : StT := ⟨.dat .str :: us 4 ++ .ptr 0 [] :: .dat (.int .i64) :: .dat (.int .i64) :: .ptr 1 [] :: .dat (.int .i64) :: .dat (.int .i64) :: us 62, [.dat QgF, .dat QgH]⟩
def Qk.p0.os : List Out := [⟨.ret, [.mask [4], .auto 0], ⟨us 4 ++ .dat .bool :: us 68, []⟩⟩, ⟨.normal, [.mask [0, 5, 8], .auto 0], ⟨.dat .str :: us 4 ++ .ptr 0 [] :: us 2 ++ .ptr 1 [] :: us 64, [.dat QgF, .dat QgH]⟩⟩]
def Qk.c (k : Nat) {ρ : Type} (s : ByteArray) (at_1 : Int) (K : Bool × Unit → Option ρ) : Option ρ :=
 (Qn k s at_1).bind fun t0 => let v1 : Int := t0.2.1
 let v2 : Int := t0.2.2.1
 (Q0 k s at_1).bind fun t3 => let v4 : Int := t3.2.1
 let v5 : Int := t3.2.2.1
 (Qk.p0 k (s, (v1, (v2, (v4, (v5, ((t0.1.1, (t0.1.2.1, (t0.1.2.2.1, (t0.1.2.2.2.1, ())))), ((t3.1.1, (t3.1.2.1, (t3.1.2.2.1, (t3.1.2.2.2.1, ())))), ())))))))).bind fun t9 => (match t9 with | .inl t10 => (K (t10.1, ())) | .inr (t11) => ((Q0N k t11.1).bind fun t12 => let v13 : Int := t12.2.1
 (Q0 k t11.1 (0 : Int)).bind fun t14 => let v15 : Int := t14.2.1
 let v16 : Int := t14.2.2.1
 bif (v16 == (0 : Int)) then (let v17 : Int := (((ByteArray.size t11.1) : Nat) : Int)
 bif (decide (v15 < v17)) then ((Q6 k (t12.1.1, (t12.1.2.1, (t12.1.2.2.1, (t12.1.2.2.2.1, ()))))).bind fun t18 => (Q4 k (t18.1.1, (t18.1.2.1, (t18.1.2.2.1, (t18.1.2.2.2.1, ())))) ((0 : Int), ([], ([], ((0 : Int), ()))))).bind fun t19 => bif t19.1 then (K ((v13 == (5 : Int)), ())) else (K (false, ()))) else ((Q6 k (t12.1.1, (t12.1.2.1, (t12.1.2.2.1, (t12.1.2.2.2.1, ()))))).bind fun t20 => (Q4 k (t20.1.1, (t20.1.2.1, (t20.1.2.2.1, (t20.1.2.2.2.1, ())))) (t14.1.1, (t14.1.2.1, (t14.1.2.2.1, (t14.1.2.2.2.1, ()))))).bind fun t21 => bif t21.1 then (K ((v13 == v16), ())) else (K (false, ())))) else ((Q6 k (t12.1.1, (t12.1.2.1, (t12.1.2.2.1, (t12.1.2.2.2.1, ()))))).bind fun t22 => (Q4 k (t22.1.1, (t22.1.2.1, (t22.1.2.2.1, (t22.1.2.2.2.1, ())))) (t14.1.1, (t14.1.2.1, (t14.1.2.2.1, (t14.1.2.2.2.1, ()))))).bind fun t23 => bif t23.1 then (K ((v13 == v16), ())) else (K (false, ())))))
def Qk (k : Nat) (s : ByteArray) (at_1 : Int) : Option (Bool × Unit) := Qk.c k s at_1 some
def Qk.tin : List Ty := [.str, (.int .i64)]
def Qk.tout : List Ty := [.bool]
def Qk.sem (k : Nat) : QY := Q04 Qk.tin Qk.tout fun x => Qk k x.1 x.2.1
noncomputable def Qk.ctx (k : Nat) : Ctx := ⟨Try.prog, gam [(19, (Qn.sem k)), (20, (Q0.sem k)), (21, (QJ.sem k)), (23, (Q6.sem k)), (22, (Q4.sem k)), (24, (Q0N.sem k))]⟩
theorem Qk.gok (k : Nat) : ∀ f, QG Try.prog f ((Qk.ctx k).Γ f) := (Qq (Qn.sem_ok k) (Qq (Q0.sem_ok k) (Qq (QJ.sem_ok k) (Qq (Q6.sem_ok k) (Qq (Q4.sem_ok k) (Qq (Q0N.sem_ok k) Q0e))))))
theorem Qk.p0.is (k : Nat) : Q1E (Qk.ctx k) (QP (Func.code Try.f4) [1, 1, 1, 0]) (.nil) Qk.p0.T Qk.p0.os (Qk.p0.r k) := by
 intro ρ x K; kernel_rfl
theorem Qk.p0.ok (k : Nat) : StOK 0 Try.prog (QP (Func.code Try.f4) [1, 1, 1, 0]) (Qx Qk.p0.T Qk.p0.os (Qk.p0 k)) :=
 Q1r (C := Qk.ctx k) (T := Qk.p0.T) (os := Qk.p0.os) (Qk.gok k) Try.mix (fun x K => Qk.p0.r k x K) Q3.nil (by kernel_rfl) (by kernel_rfl) (Qk.p0.is k)
def Qk.ann (k : Nat) : Ann := .node [] none (.nil) (.node [] none (.nil) (.node [] none (.nil) (.node [] none (.node [.mask [0, 5, 6, 7, 8, 9, 10], .auto 0] (some (Qx Qk.p0.T Qk.p0.os (Qk.p0 k))) .nil .nil) (.nil))))
theorem Qk.body (k : Nat) : Q0K (Qk.ctx k) Try.f4 (Func.code Try.f4) (Qk.ann k) Qk.tin Qk.tout (fun x K => Qk.c k x.1 x.2.1 K) := by
 intro ρ x K; kernel_rfl
theorem Qk.sem_ok (k : Nat) : QG Try.prog 4 (Qk.sem k) :=
 QT (C := Qk.ctx k) (Qk.gok k) Try.mix (c := Func.code Try.f4) (ann := Qk.ann k) (tin := Qk.tin) (tout := Qk.tout) (fun x K => Qk.c k x.1 x.2.1 K) Try.func4 (by kernel_rfl) (by kernel_rfl) (Q3.seq Q3.nil (Q3.seq Q3.nil (Q3.seq Q3.nil (Q3.seq (Q3.loop (by kernel_rfl) (Qk.p0.ok k)) Q3.nil)))) (Qk.body k)
end Go.Am
