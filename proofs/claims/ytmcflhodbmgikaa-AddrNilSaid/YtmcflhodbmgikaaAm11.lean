/- A part of a proof: a machine of abstract values that tells what functions of the program compute, and the plain facts on them. -/
import Derived.Test.YtmcflhodbmgikaaAm10
import Derived.KernelRfl
set_option linter.unusedVariables false
set_option linter.unusedSimpArgs false
set_option linter.unnecessarySimpa false
set_option linter.unusedSectionVars false
namespace Go.Am
abbrev QcG : Type := ((Unit × (Unit × Unit)) × Unit)
abbrev QcF : Type := (Int × (Int × ((List Int) × (Int × Unit))))
abbrev QcE : Ty := (.pair (.int .u32) (.pair (.int .u64) (.pair (.arr 16 (.int .u8)) (.pair (.int .u16) .unit))))
abbrev QcD : Type := (Int × ( QcF  × ( QcF  × (Int × Unit))))
abbrev QcC : Type := ( QcF  × ( QcF  × (Int × (Int × (Int × (Bool × Unit))))))
abbrev QcB : Ty := (.pair  QcE  (.pair  QcE  (.pair (.int .u32) (.pair (.int .u32) (.pair (.int .i64) (.pair .bool .unit))))))
end Go.Am
namespace Go.Am
open Go Go.Proofs
set_option maxRecDepth 100000
abbrev Q7.p0.σ : Type := Int × QcF × QcF × Unit
abbrev Q7.p0.τ : Type := (Bool × Int × Unit)
def Q7.p0.r (k : Nat) {ρ : Type} (x : Q7.p0.σ) (K : Q7.p0.τ → Option ρ) : Option ρ :=
 K (false, ((1 : Int), ()))
def Q7.p0 (k : Nat) (x : Q7.p0.σ) : Option Q7.p0.τ := Q7.p0.r k x some
def Q7.p0.T : StT := ⟨.nilp :: us 2 ++ .dat (.int .u32) :: us 1 ++ .ptr 0 [] :: .ptr 1 [] :: us 70, [.dat QcE, .dat QcE]⟩
def Q7.p0.os : List Out := [⟨.ret, [.mask [8, 9], .auto 0], ⟨us 8 ++ .dat .bool :: .dat (.int .i64) :: us 67, []⟩⟩]
abbrev Q7.τ : Type := (Bool × Int × Unit)
def Q7.c (k : Nat) {ρ : Type} (a : QcF) (source : QcF) (now : Int) (K : Q7.τ → Option ρ) : Option ρ :=
 (Q7.p0 k (now, ((a.1, (a.2.1, (a.2.2.1, (a.2.2.2.1, ())))), ((source.1, (source.2.1, (source.2.2.1, (source.2.2.2.1, ())))), ())))).bind fun t0 => K (t0.1, (t0.2.1, ()))
def Q7 (k : Nat) (a : QcF) (source : QcF) (now : Int) : Option Q7.τ := Q7.c k a source now some
def Q7.T : Q0b := ⟨[.nilp, .dat QcE, .dat QcE, .dat (.int .u32)], [], 0⟩
def Q7.os : List Out := [⟨.ret, [.freeze (.slot 0), .freeze (.slot 1), .auto 0], ⟨[.dat .bool, .dat (.int .i64)], []⟩⟩]
def Q7.sem (k : Nat) : QA := Q0k Q7.T Q7.os fun x => Q7 k x.1 x.2.1 x.2.2.1
noncomputable def Q7.ctx (k : Nat) : Ctx := ⟨Try.prog, gam []⟩
theorem Q7.gok (k : Nat) : ∀ f, Qo Try.prog f ((Q7.ctx k).Γ f) := QO
theorem Q7.p0.is (k : Nat) : Q9F (Q7.ctx k) (Q06 (Func.code Try.f4) [1, 0]) (.nil) Q7.p0.T Q7.p0.os (Q7.p0.r k) := by
 intro ρ x K; kernel_rfl
theorem Q7.p0.ok (k : Nat) : StOK 0 Try.prog (Q06 (Func.code Try.f4) [1, 0]) (Q02 Q7.p0.T Q7.p0.os (Q7.p0 k)) :=
 Qb7 (C := Q7.ctx k) (T := Q7.p0.T) (os := Q7.p0.os) (Q7.gok k) Try.mix (fun x K => Q7.p0.r k x K) Qc.nil (by kernel_rfl) (by kernel_rfl) (Q7.p0.is k)
def Q7.ann (k : Nat) : Ann := .node [] none (.nil) (.node [] none (.node [.mask [0, 3, 5, 6], .auto 0] (some (Q02 Q7.p0.T Q7.p0.os (Q7.p0 k))) .nil .nil) (.nil))
theorem Q7.body (k : Nat) : Q0r (Q7.ctx k) Try.f4 (Func.code Try.f4) (Q7.ann k) Q7.T Q7.os (fun x K => Q7.c k x.1 x.2.1 x.2.2.1 K) := by
 intro ρ x K; kernel_rfl
theorem Q7.sem_ok (k : Nat) : Qo Try.prog 4 (Q7.sem k) :=
 QU (C := Q7.ctx k) (Q7.gok k) Try.mix (c := Func.code Try.f4) (ann := Q7.ann k) (T := Q7.T) (os := Q7.os) (fun x K => Q7.c k x.1 x.2.1 x.2.2.1 K) Try.func4 (by kernel_rfl) (by kernel_rfl) (Qc.seq Qc.nil (Qc.seq (Qc.loop (by kernel_rfl) (Q7.p0.ok k)) Qc.nil)) (Q7.body k) (by kernel_rfl) (by kernel_rfl) (by kernel_rfl)
abbrev Qe.τ : Type := (Unit)
def Qe.c (k : Nat) {ρ : Type} (a : QcF) (K : Qe.τ → Option ρ) : Option ρ :=
 K ()
def Qe (k : Nat) (a : QcF) : Option Qe.τ := Qe.c k a some
def Qe.T : Q0b := ⟨[.nilp, .dat QcE], [], 0⟩
def Qe.os : List Out := [⟨.ret, [.auto 0], ⟨[.nilp], []⟩⟩]
def Qe.sem (k : Nat) : QA := Q0k Qe.T Qe.os fun x => Qe k x.1
noncomputable def Qe.ctx (k : Nat) : Ctx := ⟨Try.prog, gam []⟩
theorem Qe.gok (k : Nat) : ∀ f, Qo Try.prog f ((Qe.ctx k).Γ f) := QO
def Qe.ann (k : Nat) : Ann := .nil
theorem Qe.body (k : Nat) : Q0r (Qe.ctx k) Try.f19 (Func.code Try.f19) (Qe.ann k) Qe.T Qe.os (fun x K => Qe.c k x.1 K) := by
 intro ρ x K; kernel_rfl
theorem Qe.sem_ok (k : Nat) : Qo Try.prog 19 (Qe.sem k) :=
 QU (C := Qe.ctx k) (Qe.gok k) Try.mix (c := Func.code Try.f19) (ann := Qe.ann k) (T := Qe.T) (os := Qe.os) (fun x K => Qe.c k x.1 K) Try.func19 (by kernel_rfl) (by kernel_rfl) Qc.nil (Qe.body k) (by kernel_rfl) (by kernel_rfl) (by kernel_rfl)
abbrev Qt.τ : Type := (QcC × Bool × Unit)
def Qt.c (k : Nat) {ρ : Type} (a : QcF) (K : Qt.τ → Option ρ) : Option ρ :=
 (Qe k (a.1, (a.2.1, (a.2.2.1, (a.2.2.2.1, ()))))).bind fun t0 => K ((((0 : Int), ((0 : Int), ((List.replicate 16 (0 : Int)), ((0 : Int), ())))), (((0 : Int), ((0 : Int), ((List.replicate 16 (0 : Int)), ((0 : Int), ())))), ((0 : Int), ((0 : Int), ((0 : Int), (false, ())))))), (false, ()))
def Qt (k : Nat) (a : QcF) : Option Qt.τ := Qt.c k a some
def Qt.T : Q0b := ⟨[.nilp, .dat QcE], [], 0⟩
def Qt.os : List Out := [⟨.ret, [.freeze (.slot 0), .freeze (.slot 1), .auto 0], ⟨[.dat QcB, .dat .bool], []⟩⟩]
def Qt.sem (k : Nat) : QA := Q0k Qt.T Qt.os fun x => Qt k x.1
noncomputable def Qt.ctx (k : Nat) : Ctx := ⟨Try.prog, gam [(19, (Qe.sem k))]⟩
theorem Qt.gok (k : Nat) : ∀ f, Qo Try.prog f ((Qt.ctx k).Γ f) := (QB (Qe.sem_ok k) QO)
def Qt.ann (k : Nat) : Ann := .nil
theorem Qt.body (k : Nat) : Q0r (Qt.ctx k) Try.f5 (Func.code Try.f5) (Qt.ann k) Qt.T Qt.os (fun x K => Qt.c k x.1 K) := by
 intro ρ x K; kernel_rfl
theorem Qt.sem_ok (k : Nat) : Qo Try.prog 5 (Qt.sem k) :=
 QU (C := Qt.ctx k) (Qt.gok k) Try.mix (c := Func.code Try.f5) (ann := Qt.ann k) (T := Qt.T) (os := Qt.os) (fun x K => Qt.c k x.1 K) Try.func5 (by kernel_rfl) (by kernel_rfl) Qc.nil (Qt.body k) (by kernel_rfl) (by kernel_rfl) (by kernel_rfl)
abbrev Qf.τ : Type := (Unit)
def Qf.c (k : Nat) {ρ : Type}  (K : Qf.τ → Option ρ) : Option ρ :=
 K ()
def Qf (k : Nat)  : Option Qf.τ := Qf.c k  some
def Qf.T : Q0b := ⟨[.nilp], [], 0⟩
def Qf.os : List Out := [⟨.ret, [.auto 0], ⟨[.nils], []⟩⟩]
def Qf.sem (k : Nat) : QA := Q0k Qf.T Qf.os fun x => Qf k 
noncomputable def Qf.ctx (k : Nat) : Ctx := ⟨Try.prog, gam []⟩
theorem Qf.gok (k : Nat) : ∀ f, Qo Try.prog f ((Qf.ctx k).Γ f) := QO
def Qf.ann (k : Nat) : Ann := .nil
theorem Qf.body (k : Nat) : Q0r (Qf.ctx k) Try.f24 (Func.code Try.f24) (Qf.ann k) Qf.T Qf.os (fun x K => Qf.c k  K) := by
 intro ρ x K; kernel_rfl
theorem Qf.sem_ok (k : Nat) : Qo Try.prog 24 (Qf.sem k) :=
 QU (C := Qf.ctx k) (Qf.gok k) Try.mix (c := Func.code Try.f24) (ann := Qf.ann k) (T := Qf.T) (os := Qf.os) (fun x K => Qf.c k  K) Try.func24 (by kernel_rfl) (by kernel_rfl) Qc.nil (Qf.body k) (by kernel_rfl) (by kernel_rfl) (by kernel_rfl)
abbrev Q4.l0.σ : Type := Int × Int × Bool × Int × Int × QcF × Unit
abbrev Q4.l0.τ : Type := (QcF × Unit)
def Q4.l0.r (k : Nat) {ρ : Type} (x : Q4.l0.σ) (kn : Q4.l0.σ → Option ρ) (ke : Q4.l0.τ → Option ρ) : Option ρ :=
 bif (decide (x.2.2.2.2.1 < x.2.2.2.1)) then (none) else (ke ((x.2.2.2.2.2.1.1, (x.2.2.2.2.2.1.2.1, (x.2.2.2.2.2.1.2.2.1, (x.2.2.2.2.2.1.2.2.2.1, ())))), ()))
def Q4.l0 (k : Nat) : Nat → Q4.l0.σ → Option Q4.l0.τ := Q0W (Q4.l0.r k)
def Q4.l0.T : StT := ⟨us 1 ++ .dat (.int .u64) :: .dat (.int .u32) :: .dat .bool :: us 4 ++ .ptr 0 [] :: us 1 ++ .nils :: us 5 ++ .dat (.int .i64) :: .dat (.int .i64) :: us 37, [.dat QcE]⟩
def Q4.l0.os : List Out := [⟨(.exit 0), [.mask [8], .auto 0], ⟨us 8 ++ .ptr 0 [] :: us 46, [.dat QcE]⟩⟩]
abbrev Q4.τ : Type := (QcF × Bool × Unit)
def Q4.c (k : Nat) {ρ : Type} (lot : Int) (now : Int) (tried : Bool) (K : Q4.τ → Option ρ) : Option ρ :=
 (Qf k ).bind fun t0 => (Q4.l0 k k (lot, (now, (tried, ((0 : Int), ((0 : Int), (((0 : Int), ((0 : Int), ((List.replicate 16 (0 : Int)), ((0 : Int), ())))), ()))))))).bind fun t1 => K (((0 : Int), ((0 : Int), ((List.replicate 16 (0 : Int)), ((0 : Int), ())))), (false, ()))
def Q4 (k : Nat) (lot : Int) (now : Int) (tried : Bool) : Option Q4.τ := Q4.c k lot now tried some
def Q4.T : Q0b := ⟨[.nilp, .dat (.int .u64), .dat (.int .u32), .dat .bool], [], 0⟩
def Q4.os : List Out := [⟨.ret, [.freeze (.slot 0), .freeze (.slot 1), .auto 0], ⟨[.dat QcE, .dat .bool], []⟩⟩]
def Q4.sem (k : Nat) : QA := Q0k Q4.T Q4.os fun x => Q4 k x.1 x.2.1 x.2.2.1
noncomputable def Q4.ctx (k : Nat) : Ctx := ⟨Try.prog, gam [(24, (Qf.sem k))]⟩
theorem Q4.gok (k : Nat) : ∀ f, Qo Try.prog f ((Q4.ctx k).Γ f) := (QB (Qf.sem_ok k) QO)
theorem Q4.l0.round (k : Nat) : Q1b (Q4.ctx k) (Q06 (Func.code Try.f6) [1, 1, 0, 1, 0, 0]) (.nil) Q4.l0.T [] Q4.l0.os (Q4.l0.r k) := by
 intro ρ x kn ke; kernel_rfl
theorem Q4.l0.ok (k : Nat) : StOK 0 Try.prog (.loop (Q06 (Func.code Try.f6) [1, 1, 0, 1, 0, 0])) (Q02 Q4.l0.T Q4.l0.os (Q4.l0 k k)) :=
 Q1E (C := Q4.ctx k) (Q4.gok k) Try.mix Qc.nil (by kernel_rfl) (by kernel_rfl) (by kernel_rfl) (Q4.l0.round k) k
def Q4.ann (k : Nat) : Ann := .node [] none (.nil) (.node [] none (.nil) (.node [] none (.node [] none (.nil) (.node [] none (.node [.mask [1, 2, 3, 8, 10, 16, 17], .auto 0] (some (Q02 Q4.l0.T Q4.l0.os (Q4.l0 k k))) .nil .nil) (.nil))) (.nil)))
theorem Q4.body (k : Nat) : Q0r (Q4.ctx k) Try.f6 (Func.code Try.f6) (Q4.ann k) Q4.T Q4.os (fun x K => Q4.c k x.1 x.2.1 x.2.2.1 K) := by
 intro ρ x K; kernel_rfl
theorem Q4.sem_ok (k : Nat) : Qo Try.prog 6 (Q4.sem k) :=
 QU (C := Q4.ctx k) (Q4.gok k) Try.mix (c := Func.code Try.f6) (ann := Q4.ann k) (T := Q4.T) (os := Q4.os) (fun x K => Q4.c k x.1 x.2.1 x.2.2.1 K) Try.func6 (by kernel_rfl) (by kernel_rfl) (Qc.seq Qc.nil (Qc.seq Qc.nil (Qc.seq (Qc.seq Qc.nil (Qc.block (Qc.loop (by kernel_rfl) (Q4.l0.ok k)))) Qc.nil))) (Q4.body k) (by kernel_rfl) (by kernel_rfl) (by kernel_rfl)
abbrev Q9.l0.σ : Type := Int × Int × Int × Int × Unit
abbrev Q9.l0.τ : Type := (Int × Int × Unit)
def Q9.l0.r (k : Nat) {ρ : Type} (x : Q9.l0.σ) (kn : Q9.l0.σ → Option ρ) (ke : Q9.l0.τ → Option ρ) : Option ρ :=
 bif (decide (x.2.2.2.1 < x.2.2.1)) then (none) else (ke (x.1, (x.2.1, ())))
def Q9.l0 (k : Nat) : Nat → Q9.l0.σ → Option Q9.l0.τ := Q0W (Q9.l0.r k)
def Q9.l0.T : StT := ⟨us 4 ++ .dat (.int .i64) :: .dat (.int .i64) :: us 3 ++ .nils :: .dat (.int .i64) :: .dat (.int .i64) :: us 14, []⟩
def Q9.l0.os : List Out := [⟨(.exit 0), [.mask [4, 5], .auto 0], ⟨us 4 ++ .dat (.int .i64) :: .dat (.int .i64) :: us 20, []⟩⟩]
abbrev Q9.τ : Type := (Int × Int × Unit)
def Q9.c (k : Nat) {ρ : Type}  (K : Q9.τ → Option ρ) : Option ρ :=
 (Qf k ).bind fun t0 => (Q9.l0 k k ((0 : Int), ((0 : Int), ((0 : Int), ((0 : Int), ()))))).bind fun t1 => K (t1.1, (t1.2.1, ()))
def Q9 (k : Nat)  : Option Q9.τ := Q9.c k  some
def Q9.T : Q0b := ⟨[.nilp], [], 0⟩
def Q9.os : List Out := [⟨.ret, [.freeze (.slot 0), .freeze (.slot 1), .auto 0], ⟨[.dat (.int .i64), .dat (.int .i64)], []⟩⟩]
def Q9.sem (k : Nat) : QA := Q0k Q9.T Q9.os fun x => Q9 k 
noncomputable def Q9.ctx (k : Nat) : Ctx := ⟨Try.prog, gam [(24, (Qf.sem k))]⟩
theorem Q9.gok (k : Nat) : ∀ f, Qo Try.prog f ((Q9.ctx k).Γ f) := (QB (Qf.sem_ok k) QO)
theorem Q9.l0.round (k : Nat) : Q1b (Q9.ctx k) (Q06 (Func.code Try.f7) [1, 1, 0, 1, 0, 0]) (.nil) Q9.l0.T [] Q9.l0.os (Q9.l0.r k) := by
 intro ρ x kn ke; kernel_rfl
theorem Q9.l0.ok (k : Nat) : StOK 0 Try.prog (.loop (Q06 (Func.code Try.f7) [1, 1, 0, 1, 0, 0])) (Q02 Q9.l0.T Q9.l0.os (Q9.l0 k k)) :=
 Q1E (C := Q9.ctx k) (Q9.gok k) Try.mix Qc.nil (by kernel_rfl) (by kernel_rfl) (by kernel_rfl) (Q9.l0.round k) k
def Q9.ann (k : Nat) : Ann := .node [] none (.nil) (.node [] none (.nil) (.node [] none (.node [] none (.nil) (.node [] none (.node [] (some (Q02 Q9.l0.T Q9.l0.os (Q9.l0 k k))) .nil .nil) (.nil))) (.nil)))
theorem Q9.body (k : Nat) : Q0r (Q9.ctx k) Try.f7 (Func.code Try.f7) (Q9.ann k) Q9.T Q9.os (fun x K => Q9.c k  K) := by
 intro ρ x K; kernel_rfl
theorem Q9.sem_ok (k : Nat) : Qo Try.prog 7 (Q9.sem k) :=
 QU (C := Q9.ctx k) (Q9.gok k) Try.mix (c := Func.code Try.f7) (ann := Q9.ann k) (T := Q9.T) (os := Q9.os) (fun x K => Q9.c k  K) Try.func7 (by kernel_rfl) (by kernel_rfl) (Qc.seq Qc.nil (Qc.seq Qc.nil (Qc.seq (Qc.seq Qc.nil (Qc.block (Qc.loop (by kernel_rfl) (Q9.l0.ok k)))) Qc.nil))) (Q9.body k) (by kernel_rfl) (by kernel_rfl) (by kernel_rfl)
abbrev Qj.τ : Type := (Int × Int × Unit)
def Qj.c (k : Nat) {ρ : Type} (a : QcF) (source : QcF) (tried : Bool) (K : Qj.τ → Option ρ) : Option ρ :=
 K ((0 : Int), ((0 : Int), ()))
def Qj (k : Nat) (a : QcF) (source : QcF) (tried : Bool) : Option Qj.τ := Qj.c k a source tried some
def Qj.T : Q0b := ⟨[.nilp, .dat QcE, .dat QcE, .dat .bool], [], 0⟩
def Qj.os : List Out := [⟨.ret, [.freeze (.slot 0), .freeze (.slot 1), .auto 0], ⟨[.dat (.int .i64), .dat (.int .i64)], []⟩⟩]
def Qj.sem (k : Nat) : QA := Q0k Qj.T Qj.os fun x => Qj k x.1 x.2.1 x.2.2.1
noncomputable def Qj.ctx (k : Nat) : Ctx := ⟨Try.prog, gam []⟩
theorem Qj.gok (k : Nat) : ∀ f, Qo Try.prog f ((Qj.ctx k).Γ f) := QO
def Qj.ann (k : Nat) : Ann := .nil
theorem Qj.body (k : Nat) : Q0r (Qj.ctx k) Try.f8 (Func.code Try.f8) (Qj.ann k) Qj.T Qj.os (fun x K => Qj.c k x.1 x.2.1 x.2.2.1 K) := by
 intro ρ x K; kernel_rfl
theorem Qj.sem_ok (k : Nat) : Qo Try.prog 8 (Qj.sem k) :=
 QU (C := Qj.ctx k) (Qj.gok k) Try.mix (c := Func.code Try.f8) (ann := Qj.ann k) (T := Qj.T) (os := Qj.os) (fun x K => Qj.c k x.1 x.2.1 x.2.2.1 K) Try.func8 (by kernel_rfl) (by kernel_rfl) Qc.nil (Qj.body k) (by kernel_rfl) (by kernel_rfl) (by kernel_rfl)
abbrev Qi.τ : Type := (Int × Unit)
def Qi.c (k : Nat) {ρ : Type} (a : QcF) (K : Qi.τ → Option ρ) : Option ρ :=
 K ((1 : Int), ())
def Qi (k : Nat) (a : QcF) : Option Qi.τ := Qi.c k a some
def Qi.T : Q0b := ⟨[.nilp, .dat QcE], [], 0⟩
def Qi.os : List Out := [⟨.ret, [.freeze (.slot 1), .auto 0], ⟨[.nilp, .dat (.int .i64)], []⟩⟩]
def Qi.sem (k : Nat) : QA := Q0k Qi.T Qi.os fun x => Qi k x.1
noncomputable def Qi.ctx (k : Nat) : Ctx := ⟨Try.prog, gam []⟩
theorem Qi.gok (k : Nat) : ∀ f, Qo Try.prog f ((Qi.ctx k).Γ f) := QO
def Qi.ann (k : Nat) : Ann := .nil
theorem Qi.body (k : Nat) : Q0r (Qi.ctx k) Try.f26 (Func.code Try.f26) (Qi.ann k) Qi.T Qi.os (fun x K => Qi.c k x.1 K) := by
 intro ρ x K; kernel_rfl
theorem Qi.sem_ok (k : Nat) : Qo Try.prog 26 (Qi.sem k) :=
 QU (C := Qi.ctx k) (Qi.gok k) Try.mix (c := Func.code Try.f26) (ann := Qi.ann k) (T := Qi.T) (os := Qi.os) (fun x K => Qi.c k x.1 K) Try.func26 (by kernel_rfl) (by kernel_rfl) Qc.nil (Qi.body k) (by kernel_rfl) (by kernel_rfl) (by kernel_rfl)
abbrev Qq.τ : Type := (Int × Unit)
def Qq.c (k : Nat) {ρ : Type} (a : QcF) (now : Int) (K : Qq.τ → Option ρ) : Option ρ :=
 (Qi k (a.1, (a.2.1, (a.2.2.1, (a.2.2.2.1, ()))))).bind fun t0 => bif (t0.1 != (0 : Int)) then (K (t0.1, ())) else (none)
def Qq (k : Nat) (a : QcF) (now : Int) : Option Qq.τ := Qq.c k a now some
def Qq.T : Q0b := ⟨[.nilp, .dat QcE, .dat (.int .u32)], [], 0⟩
def Qq.os : List Out := [⟨.ret, [.freeze (.slot 0), .auto 0], ⟨[.dat (.int .i64)], []⟩⟩]
def Qq.sem (k : Nat) : QA := Q0k Qq.T Qq.os fun x => Qq k x.1 x.2.1
noncomputable def Qq.ctx (k : Nat) : Ctx := ⟨Try.prog, gam [(26, (Qi.sem k))]⟩
theorem Qq.gok (k : Nat) : ∀ f, Qo Try.prog f ((Qq.ctx k).Γ f) := (QB (Qi.sem_ok k) QO)
def Qq.ann (k : Nat) : Ann := .nil
theorem Qq.body (k : Nat) : Q0r (Qq.ctx k) Try.f10 (Func.code Try.f10) (Qq.ann k) Qq.T Qq.os (fun x K => Qq.c k x.1 x.2.1 K) := by
 intro ρ x K; kernel_rfl
theorem Qq.sem_ok (k : Nat) : Qo Try.prog 10 (Qq.sem k) :=
 QU (C := Qq.ctx k) (Qq.gok k) Try.mix (c := Func.code Try.f10) (ann := Qq.ann k) (T := Qq.T) (os := Qq.os) (fun x K => Qq.c k x.1 x.2.1 K) Try.func10 (by kernel_rfl) (by kernel_rfl) Qc.nil (Qq.body k) (by kernel_rfl) (by kernel_rfl) (by kernel_rfl)
abbrev Qk.τ : Type := (Int × Unit)
def Qk.c (k : Nat) {ρ : Type} (a : QcF) (now : Int) (K : Qk.τ → Option ρ) : Option ρ :=
 (Qi k (a.1, (a.2.1, (a.2.2.1, (a.2.2.2.1, ()))))).bind fun t0 => bif (t0.1 == (0 : Int)) then (none) else (K (t0.1, ()))
def Qk (k : Nat) (a : QcF) (now : Int) : Option Qk.τ := Qk.c k a now some
def Qk.T : Q0b := ⟨[.nilp, .dat QcE, .dat (.int .u32)], [], 0⟩
def Qk.os : List Out := [⟨.ret, [.freeze (.slot 0), .auto 0], ⟨[.dat (.int .i64)], []⟩⟩]
def Qk.sem (k : Nat) : QA := Q0k Qk.T Qk.os fun x => Qk k x.1 x.2.1
noncomputable def Qk.ctx (k : Nat) : Ctx := ⟨Try.prog, gam [(26, (Qi.sem k))]⟩
theorem Qk.gok (k : Nat) : ∀ f, Qo Try.prog f ((Qk.ctx k).Γ f) := (QB (Qi.sem_ok k) QO)
def Qk.ann (k : Nat) : Ann := .nil
theorem Qk.body (k : Nat) : Q0r (Qk.ctx k) Try.f11 (Func.code Try.f11) (Qk.ann k) Qk.T Qk.os (fun x K => Qk.c k x.1 x.2.1 K) := by
 intro ρ x K; kernel_rfl
theorem Qk.sem_ok (k : Nat) : Qo Try.prog 11 (Qk.sem k) :=
 QU (C := Qk.ctx k) (Qk.gok k) Try.mix (c := Func.code Try.f11) (ann := Qk.ann k) (T := Qk.T) (os := Qk.os) (fun x K => Qk.c k x.1 x.2.1 K) Try.func11 (by kernel_rfl) (by kernel_rfl) Qc.nil (Qk.body k) (by kernel_rfl) (by kernel_rfl) (by kernel_rfl)
abbrev Q1.l0.σ : Type := (Unit × Unit) × Int × Int × Int × Unit
abbrev Q1.l0.τ : Type := (Int × Unit)
def Q1.l0.r (k : Nat) {ρ : Type} (x : Q1.l0.σ) (kn : Q1.l0.σ → Option ρ) (ke : Q1.l0.τ → Option ρ) : Option ρ :=
 bif (decide (x.2.2.1 < x.2.1)) then (none) else (ke (x.2.2.2.1, ()))
def Q1.l0 (k : Nat) : Nat → Q1.l0.σ → Option Q1.l0.τ := Q0W (Q1.l0.r k)
def Q1.l0.T : StT := ⟨.nils :: .fn 28 (.pair (.ptr 0 []) (.dat .unit)) :: us 5 ++ .dat (.int .i64) :: .dat (.int .i64) :: us 10, [.dat (.int .u32)]⟩
def Q1.l0.os : List Out := [⟨(.exit 0), [.mask [], .auto 1], ⟨us 19, [.dat (.int .u32)]⟩⟩]
abbrev Q1.τ : Type := (Int × Int × Unit)
def Q1.c (k : Nat) {ρ : Type} (f : (Unit × Unit)) (b0 : Int) (K : Q1.τ → Option ρ) : Option ρ :=
 (Q1.l0 k k (((), ()), ((0 : Int), ((0 : Int), (b0, ()))))).bind fun t0 => K ((-(1 : Int)), (t0.1, ()))
def Q1 (k : Nat) (f : (Unit × Unit)) (b0 : Int) : Option Q1.τ := Q1.c k f b0 some
def Q1.T : Q0b := ⟨[.nils, .fn 28 (.pair (.ptr 0 []) (.dat .unit))], [.dat (.int .u32)], 1⟩
def Q1.os : List Out := [⟨.ret, [.freeze (.slot 0), .auto 1], ⟨[.dat (.int .i64)], [.dat (.int .u32)]⟩⟩]
def Q1.sem (k : Nat) : QA := Q0k Q1.T Q1.os fun x => Q1 k x.1 x.2.1
noncomputable def Q1.ctx (k : Nat) : Ctx := ⟨Try.prog, gam []⟩
theorem Q1.gok (k : Nat) : ∀ f, Qo Try.prog f ((Q1.ctx k).Γ f) := QO
theorem Q1.l0.round (k : Nat) : Q1b (Q1.ctx k) (Q06 (Func.code Try.f40) [1, 0, 1, 0, 0]) (.nil) Q1.l0.T [] Q1.l0.os (Q1.l0.r k) := by
 intro ρ x kn ke; kernel_rfl
theorem Q1.l0.ok (k : Nat) : StOK 1 Try.prog (.loop (Q06 (Func.code Try.f40) [1, 0, 1, 0, 0])) (Q02 Q1.l0.T Q1.l0.os (Q1.l0 k k)) :=
 Q1E (C := Q1.ctx k) (Q1.gok k) Try.mix Qc.nil (by kernel_rfl) (by kernel_rfl) (by kernel_rfl) (Q1.l0.round k) k
def Q1.ann (k : Nat) : Ann := .node [] none (.nil) (.node [] none (.node [] none (.nil) (.node [] none (.node [.mask [0, 1, 7, 8], .auto 1] (some (Q02 Q1.l0.T Q1.l0.os (Q1.l0 k k))) .nil .nil) (.nil))) (.nil))
theorem Q1.body (k : Nat) : Q0r (Q1.ctx k) Try.f40 (Func.code Try.f40) (Q1.ann k) Q1.T Q1.os (fun x K => Q1.c k x.1 x.2.1 K) := by
 intro ρ x K; kernel_rfl
theorem Q1.sem_ok (k : Nat) : Qo Try.prog 40 (Q1.sem k) :=
 QU (C := Q1.ctx k) (Q1.gok k) Try.mix (c := Func.code Try.f40) (ann := Q1.ann k) (T := Q1.T) (os := Q1.os) (fun x K => Q1.c k x.1 x.2.1 K) Try.func40 (by kernel_rfl) (by kernel_rfl) (Qc.seq Qc.nil (Qc.seq (Qc.seq Qc.nil (Qc.block (Qc.loop (by kernel_rfl) (Q1.l0.ok k)))) Qc.nil)) (Q1.body k) (by kernel_rfl) (by kernel_rfl) (by kernel_rfl)
abbrev Q0.l0.σ : Type := (Unit × Unit) × Int × Int × Int × Unit
abbrev Q0.l0.τ : Type := (Int × Int × Unit)
def Q0.l0.r (k : Nat) {ρ : Type} (x : Q0.l0.σ) (kn : Q0.l0.σ → Option ρ) (ke : Q0.l0.τ → Option ρ) : Option ρ :=
 bif (decide (x.2.2.1 < (0 : Int))) then (none) else (ke (x.2.1, (x.2.2.2.1, ())))
def Q0.l0 (k : Nat) : Nat → Q0.l0.σ → Option Q0.l0.τ := Q0W (Q0.l0.r k)
def Q0.l0.T : StT := ⟨.nils :: .fn 28 (.pair (.ptr 0 []) (.dat .unit)) :: us 3 ++ .dat (.int .i64) :: .dat (.int .i64) :: us 35, [.dat (.int .u32)]⟩
def Q0.l0.os : List Out := [⟨(.exit 0), [.mask [0, 5], .auto 1], ⟨.nils :: us 4 ++ .dat (.int .i64) :: us 36, [.dat (.int .u32)]⟩⟩]
abbrev Q0.τ : Type := (Int × Unit)
def Q0.c (k : Nat) {ρ : Type} (del : (Unit × Unit)) (b0 : Int) (K : Q0.τ → Option ρ) : Option ρ :=
 (Q1 k ((), ()) b0).bind fun t0 => bif (t0.1 == (-(1 : Int))) then (K (t0.2.1, ())) else (let v1 : Int := (IntKind.wrap IntKind.i64 (t0.1 + (1 : Int)))
 (Q0.l0 k k (((), ()), (t0.1, (v1, (t0.2.1, ()))))).bind fun t2 => bif (decide ((t2.1 = (0 : Int)) ∧ ((0 : Int) = (0 : Int)))) then (none) else (none))
def Q0 (k : Nat) (del : (Unit × Unit)) (b0 : Int) : Option Q0.τ := Q0.c k del b0 some
def Q0.T : Q0b := ⟨[.nils, .fn 28 (.pair (.ptr 0 []) (.dat .unit))], [.dat (.int .u32)], 1⟩
def Q0.os : List Out := [⟨.ret, [.auto 1], ⟨[.nils], [.dat (.int .u32)]⟩⟩]
def Q0.sem (k : Nat) : QA := Q0k Q0.T Q0.os fun x => Q0 k x.1 x.2.1
noncomputable def Q0.ctx (k : Nat) : Ctx := ⟨Try.prog, gam [(40, (Q1.sem k))]⟩
theorem Q0.gok (k : Nat) : ∀ f, Qo Try.prog f ((Q0.ctx k).Γ f) := (QB (Q1.sem_ok k) QO)
theorem Q0.l0.round (k : Nat) : Q1b (Q0.ctx k) (Q06 (Func.code Try.f27) [1, 1, 1, 0, 1, 0, 0]) (.nil) Q0.l0.T [] Q0.l0.os (Q0.l0.r k) := by
 intro ρ x kn ke; kernel_rfl
theorem Q0.l0.ok (k : Nat) : StOK 1 Try.prog (.loop (Q06 (Func.code Try.f27) [1, 1, 1, 0, 1, 0, 0])) (Q02 Q0.l0.T Q0.l0.os (Q0.l0 k k)) :=
 Q1E (C := Q0.ctx k) (Q0.gok k) Try.mix Qc.nil (by kernel_rfl) (by kernel_rfl) (by kernel_rfl) (Q0.l0.round k) k
def Q0.ann (k : Nat) : Ann := .node [] none (.nil) (.node [] none (.nil) (.node [] none (.nil) (.node [] none (.node [] none (.nil) (.node [] none (.node [.mask [0, 1, 5, 6], .auto 1] (some (Q02 Q0.l0.T Q0.l0.os (Q0.l0 k k))) .nil .nil) (.nil))) (.nil))))
theorem Q0.body (k : Nat) : Q0r (Q0.ctx k) Try.f27 (Func.code Try.f27) (Q0.ann k) Q0.T Q0.os (fun x K => Q0.c k x.1 x.2.1 K) := by
 intro ρ x K; kernel_rfl
theorem Q0.sem_ok (k : Nat) : Qo Try.prog 27 (Q0.sem k) :=
 QU (C := Q0.ctx k) (Q0.gok k) Try.mix (c := Func.code Try.f27) (ann := Q0.ann k) (T := Q0.T) (os := Q0.os) (fun x K => Q0.c k x.1 x.2.1 K) Try.func27 (by kernel_rfl) (by kernel_rfl) (Qc.seq Qc.nil (Qc.seq Qc.nil (Qc.seq Qc.nil (Qc.seq (Qc.seq Qc.nil (Qc.block (Qc.loop (by kernel_rfl) (Q0.l0.ok k)))) Qc.nil)))) (Q0.body k) (by kernel_rfl) (by kernel_rfl) (by kernel_rfl)
abbrev Q5.l0.σ : Type := Int × Int × Int × Unit
abbrev Q5.l0.τ : Type := (Unit)
def Q5.l0.r (k : Nat) {ρ : Type} (x : Q5.l0.σ) (kn : Q5.l0.σ → Option ρ) (ke : Q5.l0.τ → Option ρ) : Option ρ :=
 bif (decide (x.2.2.1 < x.2.1)) then (none) else (ke ())
def Q5.l0 (k : Nat) : Nat → Q5.l0.σ → Option Q5.l0.τ := Q0W (Q5.l0.r k)
def Q5.l0.T : StT := ⟨us 1 ++ .dat (.int .u64) :: us 7 ++ .nils :: us 1 ++ .nils :: us 13 ++ .dat (.int .i64) :: .dat (.int .i64) :: us 25, []⟩
def Q5.l0.os : List Out := [⟨(.exit 0), [.mask [11], .auto 0], ⟨us 11 ++ .nils :: us 40, []⟩⟩]
abbrev Q5.τ : Type := ((List QcF) × Unit)
def Q5.c (k : Nat) {ρ : Type} (lot : Int) (now : Int) (most : Int) (K : Q5.τ → Option ρ) : Option ρ :=
 (Qf k ).bind fun t0 => (Q0 k ((), ()) now).bind fun t1 => let v2 : Int := (IntKind.wrap IntKind.i64 ((0 : Int) + (4 : Int)))
 let v3 : Int := (IntKind.wrap IntKind.i64 (v2 - (1 : Int)))
 let v4 : Int := (IntKind.wrap IntKind.i64 (Int.tdiv v3 (4 : Int)))
 let v5 : Int := (if (v4 < most) then v4 else most)
 let v6 : Int := (if ((0 : Int) > v5) then (0 : Int) else v5)
 (Q5.l0 k k (lot, (v6, ((0 : Int), ())))).bind fun t7 => K ([], ())
def Q5 (k : Nat) (lot : Int) (now : Int) (most : Int) : Option Q5.τ := Q5.c k lot now most some
def Q5.T : Q0b := ⟨[.nilp, .dat (.int .u64), .dat (.int .u32), .dat (.int .i64)], [], 0⟩
def Q5.os : List Out := [⟨.ret, [.freeze (.slot 0), .auto 0], ⟨[.dat (.sl QcE)], []⟩⟩]
def Q5.sem (k : Nat) : QA := Q0k Q5.T Q5.os fun x => Q5 k x.1 x.2.1 x.2.2.1
noncomputable def Q5.ctx (k : Nat) : Ctx := ⟨Try.prog, gam [(24, (Qf.sem k)), (27, (Q0.sem k))]⟩
theorem Q5.gok (k : Nat) : ∀ f, Qo Try.prog f ((Q5.ctx k).Γ f) := (QB (Qf.sem_ok k) (QB (Q0.sem_ok k) QO))
theorem Q5.l0.round (k : Nat) : Q1b (Q5.ctx k) (Q06 (Func.code Try.f12) [1, 1, 1, 1, 0, 1, 0, 0]) (.nil) Q5.l0.T [] Q5.l0.os (Q5.l0.r k) := by
 intro ρ x kn ke; kernel_rfl
theorem Q5.l0.ok (k : Nat) : StOK 0 Try.prog (.loop (Q06 (Func.code Try.f12) [1, 1, 1, 1, 0, 1, 0, 0])) (Q02 Q5.l0.T Q5.l0.os (Q5.l0 k k)) :=
 Q1E (C := Q5.ctx k) (Q5.gok k) Try.mix Qc.nil (by kernel_rfl) (by kernel_rfl) (by kernel_rfl) (Q5.l0.round k) k
def Q5.ann (k : Nat) : Ann := .node [] none (.nil) (.node [] none (.nil) (.node [] none (.nil) (.node [] none (.nil) (.node [] none (.node [] none (.nil) (.node [] none (.node [.mask [1, 9, 11, 25, 26], .auto 0] (some (Q02 Q5.l0.T Q5.l0.os (Q5.l0 k k))) .nil .nil) (.nil))) (.nil)))))
theorem Q5.body (k : Nat) : Q0r (Q5.ctx k) Try.f12 (Func.code Try.f12) (Q5.ann k) Q5.T Q5.os (fun x K => Q5.c k x.1 x.2.1 x.2.2.1 K) := by
 intro ρ x K; kernel_rfl
theorem Q5.sem_ok (k : Nat) : Qo Try.prog 12 (Q5.sem k) :=
 QU (C := Q5.ctx k) (Q5.gok k) Try.mix (c := Func.code Try.f12) (ann := Q5.ann k) (T := Q5.T) (os := Q5.os) (fun x K => Q5.c k x.1 x.2.1 x.2.2.1 K) Try.func12 (by kernel_rfl) (by kernel_rfl) (Qc.seq Qc.nil (Qc.seq Qc.nil (Qc.seq Qc.nil (Qc.seq Qc.nil (Qc.seq (Qc.seq Qc.nil (Qc.block (Qc.loop (by kernel_rfl) (Q5.l0.ok k)))) Qc.nil))))) (Q5.body k) (by kernel_rfl) (by kernel_rfl) (by kernel_rfl)
abbrev Qs.τ : Type := (Bool × Unit)
def Qs.c (k : Nat) {ρ : Type} (a : QcF) (K : Qs.τ → Option ρ) : Option ρ :=
 (Qe k (a.1, (a.2.1, (a.2.2.1, (a.2.2.2.1, ()))))).bind fun t0 => K (false, ())
def Qs (k : Nat) (a : QcF) : Option Qs.τ := Qs.c k a some
def Qs.T : Q0b := ⟨[.nilp, .dat QcE], [], 0⟩
def Qs.os : List Out := [⟨.ret, [.freeze (.slot 0), .auto 0], ⟨[.dat .bool], []⟩⟩]
def Qs.sem (k : Nat) : QA := Q0k Qs.T Qs.os fun x => Qs k x.1
noncomputable def Qs.ctx (k : Nat) : Ctx := ⟨Try.prog, gam [(19, (Qe.sem k))]⟩
theorem Qs.gok (k : Nat) : ∀ f, Qo Try.prog f ((Qs.ctx k).Γ f) := (QB (Qe.sem_ok k) QO)
def Qs.ann (k : Nat) : Ann := .nil
theorem Qs.body (k : Nat) : Q0r (Qs.ctx k) Try.f13 (Func.code Try.f13) (Qs.ann k) Qs.T Qs.os (fun x K => Qs.c k x.1 K) := by
 intro ρ x K; kernel_rfl
theorem Qs.sem_ok (k : Nat) : Qo Try.prog 13 (Qs.sem k) :=
 QU (C := Qs.ctx k) (Qs.gok k) Try.mix (c := Func.code Try.f13) (ann := Qs.ann k) (T := Qs.T) (os := Qs.os) (fun x K => Qs.c k x.1 K) Try.func13 (by kernel_rfl) (by kernel_rfl) Qc.nil (Qs.body k) (by kernel_rfl) (by kernel_rfl) (by kernel_rfl)
abbrev Q8.l0.σ : Type := Int × Int × Unit
abbrev Q8.l0.τ : Type := (Unit)
def Q8.l0.r (k : Nat) {ρ : Type} (x : Q8.l0.σ) (kn : Q8.l0.σ → Option ρ) (ke : Q8.l0.τ → Option ρ) : Option ρ :=
 bif (decide (x.2.1 < x.1)) then (none) else (ke ())
def Q8.l0 (k : Nat) : Nat → Q8.l0.σ → Option Q8.l0.τ := Q0W (Q8.l0.r k)
def Q8.l0.T : StT := ⟨us 3 ++ .nils :: us 3 ++ .nils :: .dat (.int .i64) :: .dat (.int .i64) :: us 11, []⟩
def Q8.l0.os : List Out := [⟨(.exit 0), [.mask [3], .auto 0], ⟨us 3 ++ .nils :: us 17, []⟩⟩]
abbrev Q8.τ : Type := ((List QcC) × Unit)
def Q8.c (k : Nat) {ρ : Type}  (K : Q8.τ → Option ρ) : Option ρ :=
 (Qf k ).bind fun t0 => (Q8.l0 k k ((0 : Int), ((0 : Int), ()))).bind fun t1 => K ([], ())
def Q8 (k : Nat)  : Option Q8.τ := Q8.c k  some
def Q8.T : Q0b := ⟨[.nilp], [], 0⟩
def Q8.os : List Out := [⟨.ret, [.freeze (.slot 0), .auto 0], ⟨[.dat (.sl QcB)], []⟩⟩]
def Q8.sem (k : Nat) : QA := Q0k Q8.T Q8.os fun x => Q8 k 
noncomputable def Q8.ctx (k : Nat) : Ctx := ⟨Try.prog, gam [(24, (Qf.sem k))]⟩
theorem Q8.gok (k : Nat) : ∀ f, Qo Try.prog f ((Q8.ctx k).Γ f) := (QB (Qf.sem_ok k) QO)
theorem Q8.l0.round (k : Nat) : Q1b (Q8.ctx k) (Q06 (Func.code Try.f14) [1, 1, 0, 1, 0, 0]) (.nil) Q8.l0.T [] Q8.l0.os (Q8.l0.r k) := by
 intro ρ x kn ke; kernel_rfl
theorem Q8.l0.ok (k : Nat) : StOK 0 Try.prog (.loop (Q06 (Func.code Try.f14) [1, 1, 0, 1, 0, 0])) (Q02 Q8.l0.T Q8.l0.os (Q8.l0 k k)) :=
 Q1E (C := Q8.ctx k) (Q8.gok k) Try.mix Qc.nil (by kernel_rfl) (by kernel_rfl) (by kernel_rfl) (Q8.l0.round k) k
def Q8.ann (k : Nat) : Ann := .node [] none (.nil) (.node [] none (.nil) (.node [] none (.node [] none (.nil) (.node [] none (.node [] (some (Q02 Q8.l0.T Q8.l0.os (Q8.l0 k k))) .nil .nil) (.nil))) (.nil)))
theorem Q8.body (k : Nat) : Q0r (Q8.ctx k) Try.f14 (Func.code Try.f14) (Q8.ann k) Q8.T Q8.os (fun x K => Q8.c k  K) := by
 intro ρ x K; kernel_rfl
theorem Q8.sem_ok (k : Nat) : Qo Try.prog 14 (Q8.sem k) :=
 QU (C := Q8.ctx k) (Q8.gok k) Try.mix (c := Func.code Try.f14) (ann := Q8.ann k) (T := Q8.T) (os := Q8.os) (fun x K => Q8.c k  K) Try.func14 (by kernel_rfl) (by kernel_rfl) (Qc.seq Qc.nil (Qc.seq Qc.nil (Qc.seq (Qc.seq Qc.nil (Qc.block (Qc.loop (by kernel_rfl) (Q8.l0.ok k)))) Qc.nil))) (Q8.body k) (by kernel_rfl) (by kernel_rfl) (by kernel_rfl)
abbrev Qd.τ : Type := (Bool × Unit)
def Qd.c (k : Nat) {ρ : Type} (a : QcF) (now : Int) (K : Qd.τ → Option ρ) : Option ρ :=
 (Qe k (a.1, (a.2.1, (a.2.2.1, (a.2.2.2.1, ()))))).bind fun t0 => K (false, ())
def Qd (k : Nat) (a : QcF) (now : Int) : Option Qd.τ := Qd.c k a now some
def Qd.T : Q0b := ⟨[.nilp, .dat QcE, .dat (.int .u32)], [], 0⟩
def Qd.os : List Out := [⟨.ret, [.freeze (.slot 0), .auto 0], ⟨[.dat .bool], []⟩⟩]
def Qd.sem (k : Nat) : QA := Q0k Qd.T Qd.os fun x => Qd k x.1 x.2.1
noncomputable def Qd.ctx (k : Nat) : Ctx := ⟨Try.prog, gam [(19, (Qe.sem k))]⟩
theorem Qd.gok (k : Nat) : ∀ f, Qo Try.prog f ((Qd.ctx k).Γ f) := (QB (Qe.sem_ok k) QO)
def Qd.ann (k : Nat) : Ann := .nil
theorem Qd.body (k : Nat) : Q0r (Qd.ctx k) Try.f15 (Func.code Try.f15) (Qd.ann k) Qd.T Qd.os (fun x K => Qd.c k x.1 x.2.1 K) := by
 intro ρ x K; kernel_rfl
theorem Qd.sem_ok (k : Nat) : Qo Try.prog 15 (Qd.sem k) :=
 QU (C := Qd.ctx k) (Qd.gok k) Try.mix (c := Func.code Try.f15) (ann := Qd.ann k) (T := Qd.T) (os := Qd.os) (fun x K => Qd.c k x.1 x.2.1 K) Try.func15 (by kernel_rfl) (by kernel_rfl) Qc.nil (Qd.body k) (by kernel_rfl) (by kernel_rfl) (by kernel_rfl)
abbrev Qw.τ : Type := (QcG × (List Int) × Unit)
def Qw.c (k : Nat) {ρ : Type} (n : Int) (b0 : QcG) (b1 : (List Int)) (K : Qw.τ → Option ρ) : Option ρ :=
 (QJ k (IntKind.wrap IntKind.u64 n) (4 : Int)).bind fun t0 => (Qh k t0.1 (((), ((), ())), ()) b1).bind fun t1 => K ((((), ((), ())), ()), (t1.2.1, ()))
def Qw (k : Nat) (n : Int) (b0 : QcG) (b1 : (List Int)) : Option Qw.τ := Qw.c k n b0 b1 some
def Qw.T : Q0b := ⟨[.ptr 0 [], .dat (.int .u32)], [.pair (.pair (.sfp 0 [0] 96) (.pair (.vbs 1) (.dat .unit))) (.dat .unit), .vec (.int .u8)], 1⟩
def Qw.os : List Out := [⟨.ret, [.auto 1], ⟨[], [.pair (.pair (.sfp 0 [0] 96) (.pair (.vbs 1) (.dat .unit))) (.dat .unit), .vec (.int .u8)]⟩⟩]
def Qw.sem (k : Nat) : QA := Q0k Qw.T Qw.os fun x => Qw k x.1 x.2.1 x.2.2.1
noncomputable def Qw.ctx (k : Nat) : Ctx := ⟨Try.prog, gam [(42, (QJ.sem k)), (41, (Qh.sem k))]⟩
theorem Qw.gok (k : Nat) : ∀ f, Qo Try.prog f ((Qw.ctx k).Γ f) := (QB (QJ.sem_ok k) (QB (Qh.sem_ok k) QO))
def Qw.ann (k : Nat) : Ann := .nil
theorem Qw.body (k : Nat) : Q0r (Qw.ctx k) Try.f31 (Func.code Try.f31) (Qw.ann k) Qw.T Qw.os (fun x K => Qw.c k x.1 x.2.1 x.2.2.1 K) := by
 intro ρ x K; kernel_rfl
theorem Qw.sem_ok (k : Nat) : Qo Try.prog 31 (Qw.sem k) :=
 QU (C := Qw.ctx k) (Qw.gok k) Try.mix (c := Func.code Try.f31) (ann := Qw.ann k) (T := Qw.T) (os := Qw.os) (fun x K => Qw.c k x.1 x.2.1 x.2.2.1 K) Try.func31 (by kernel_rfl) (by kernel_rfl) Qc.nil (Qw.body k) (by kernel_rfl) (by kernel_rfl) (by kernel_rfl)
abbrev Q2.l0.σ : Type := Int × Int × QcG × (List Int) × Unit
abbrev Q2.l0.τ : Type := (QcG × (List Int) × Unit)
def Q2.l0.r (k : Nat) {ρ : Type} (x : Q2.l0.σ) (kn : Q2.l0.σ → Option ρ) (ke : Q2.l0.τ → Option ρ) : Option ρ :=
 bif (decide (x.2.1 < x.1)) then (none) else (ke ((((), ((), ())), ()), (x.2.2.2.1, ())))
def Q2.l0 (k : Nat) : Nat → Q2.l0.σ → Option Q2.l0.τ := Q0W (Q2.l0.r k)
def Q2.l0.T : StT := ⟨us 3 ++ .ptr 0 [] :: us 11 ++ .nils :: .dat (.int .i64) :: .dat (.int .i64) :: us 43, [.pair (.pair (.sfp 0 [0] 96) (.pair (.vbs 1) (.dat .unit))) (.dat .unit), .vec (.int .u8)]⟩
def Q2.l0.os : List Out := [⟨(.exit 0), [.mask [3], .auto 0], ⟨us 3 ++ .ptr 0 [] :: us 57, [.pair (.pair (.sfp 0 [0] 96) (.pair (.vbs 1) (.dat .unit))) (.dat .unit), .vec (.int .u8)]⟩⟩]
abbrev Q2.τ : Type := (ByteArray × Unit)
def Q2.c (k : Nat) {ρ : Type}  (K : Q2.τ → Option ρ) : Option ρ :=
 (Qz k ).bind fun t0 => (Qf k ).bind fun t1 => (Qw k (IntKind.wrap IntKind.u32 (0 : Int)) (((), ((), ())), ()) t0.2.1).bind fun t2 => (Q2.l0 k k ((0 : Int), ((0 : Int), ((((), ((), ())), ()), (t2.2.1, ()))))).bind fun t3 => (Qm k (((), ((), ())), ()) t3.2.1).bind fun t4 => K (t4.1, ())
def Q2 (k : Nat)  : Option Q2.τ := Q2.c k  some
def Q2.T : Q0b := ⟨[.nilp], [], 0⟩
def Q2.os : List Out := [⟨.ret, [.freeze (.slot 0), .auto 0], ⟨[.dat .str], []⟩⟩]
def Q2.sem (k : Nat) : QA := Q0k Q2.T Q2.os fun x => Q2 k 
noncomputable def Q2.ctx (k : Nat) : Ctx := ⟨Try.prog, gam [(30, (Qz.sem k)), (24, (Qf.sem k)), (31, (Qw.sem k)), (34, (Qm.sem k))]⟩
theorem Q2.gok (k : Nat) : ∀ f, Qo Try.prog f ((Q2.ctx k).Γ f) := (QB (Qz.sem_ok k) (QB (Qf.sem_ok k) (QB (Qw.sem_ok k) (QB (Qm.sem_ok k) QO))))
theorem Q2.l0.round (k : Nat) : Q1b (Q2.ctx k) (Q06 (Func.code Try.f16) [1, 1, 1, 1, 0, 1, 0, 0]) (.nil) Q2.l0.T [] Q2.l0.os (Q2.l0.r k) := by
 intro ρ x kn ke; kernel_rfl
theorem Q2.l0.ok (k : Nat) : StOK 0 Try.prog (.loop (Q06 (Func.code Try.f16) [1, 1, 1, 1, 0, 1, 0, 0])) (Q02 Q2.l0.T Q2.l0.os (Q2.l0 k k)) :=
 Q1E (C := Q2.ctx k) (Q2.gok k) Try.mix Qc.nil (by kernel_rfl) (by kernel_rfl) (by kernel_rfl) (Q2.l0.round k) k
def Q2.ann (k : Nat) : Ann := .node [] none (.nil) (.node [] none (.nil) (.node [] none (.nil) (.node [] none (.nil) (.node [] none (.node [] none (.nil) (.node [] none (.node [.mask [3, 15, 16, 17], .auto 0] (some (Q02 Q2.l0.T Q2.l0.os (Q2.l0 k k))) .nil .nil) (.nil))) (.nil)))))
theorem Q2.body (k : Nat) : Q0r (Q2.ctx k) Try.f16 (Func.code Try.f16) (Q2.ann k) Q2.T Q2.os (fun x K => Q2.c k  K) := by
 intro ρ x K; kernel_rfl
theorem Q2.sem_ok (k : Nat) : Qo Try.prog 16 (Q2.sem k) :=
 QU (C := Q2.ctx k) (Q2.gok k) Try.mix (c := Func.code Try.f16) (ann := Q2.ann k) (T := Q2.T) (os := Q2.os) (fun x K => Q2.c k  K) Try.func16 (by kernel_rfl) (by kernel_rfl) (Qc.seq Qc.nil (Qc.seq Qc.nil (Qc.seq Qc.nil (Qc.seq Qc.nil (Qc.seq (Qc.seq Qc.nil (Qc.block (Qc.loop (by kernel_rfl) (Q2.l0.ok k)))) Qc.nil))))) (Q2.body k) (by kernel_rfl) (by kernel_rfl) (by kernel_rfl)
abbrev Ql.τ : Type := (Unit)
def Ql.c (k : Nat) {ρ : Type}  (K : Ql.τ → Option ρ) : Option ρ :=
 K ()
def Ql (k : Nat)  : Option Ql.τ := Ql.c k  some
def Ql.T : Q0b := ⟨[.nilp], [], 0⟩
def Ql.os : List Out := [⟨.ret, [.auto 0], ⟨[.nilp], []⟩⟩]
def Ql.sem (k : Nat) : QA := Q0k Ql.T Ql.os fun x => Ql k 
noncomputable def Ql.ctx (k : Nat) : Ctx := ⟨Try.prog, gam []⟩
theorem Ql.gok (k : Nat) : ∀ f, Qo Try.prog f ((Ql.ctx k).Γ f) := QO
def Ql.ann (k : Nat) : Ann := .nil
theorem Ql.body (k : Nat) : Q0r (Ql.ctx k) Try.f17 (Func.code Try.f17) (Ql.ann k) Ql.T Ql.os (fun x K => Ql.c k  K) := by
 intro ρ x K; kernel_rfl
theorem Ql.sem_ok (k : Nat) : Qo Try.prog 17 (Ql.sem k) :=
 QU (C := Ql.ctx k) (Ql.gok k) Try.mix (c := Func.code Try.f17) (ann := Ql.ann k) (T := Ql.T) (os := Ql.os) (fun x K => Ql.c k  K) Try.func17 (by kernel_rfl) (by kernel_rfl) Qc.nil (Ql.body k) (by kernel_rfl) (by kernel_rfl) (by kernel_rfl)
def Qg.c (k : Nat) {ρ : Type} (x_0 : QcD) (K : Bool × Unit → Option ρ) : Option ρ :=
 let v0 : Int := x_0.2.2.2.1
 (Q7 k (x_0.2.1.1, (x_0.2.1.2.1, (x_0.2.1.2.2.1, (x_0.2.1.2.2.2.1, ())))) (x_0.2.2.1.1, (x_0.2.2.1.2.1, (x_0.2.2.1.2.2.1, (x_0.2.2.1.2.2.2.1, ())))) v0).bind fun t1 => let v2 : Int := t1.2.1
 (Qt k (x_0.2.1.1, (x_0.2.1.2.1, (x_0.2.1.2.2.1, (x_0.2.1.2.2.2.1, ()))))).bind fun t3 => let v4 : Int := x_0.2.2.2.1
 (Q4 k (1 : Int) v4 false).bind fun t5 => (Q9 k ).bind fun t6 => let v7 : Int := t6.2.1
 (Qj k (x_0.2.1.1, (x_0.2.1.2.1, (x_0.2.1.2.2.1, (x_0.2.1.2.2.2.1, ())))) (x_0.2.2.1.1, (x_0.2.2.1.2.1, (x_0.2.2.1.2.2.1, (x_0.2.2.1.2.2.2.1, ())))) true).bind fun t8 => let v9 : Int := t8.2.1
 (Qn k ).bind fun t10 => bif t10.1 then (bif (v2 == (1 : Int)) then (let v11 : Int := x_0.2.2.2.1
 (Qq k (x_0.2.1.1, (x_0.2.1.2.1, (x_0.2.1.2.2.1, (x_0.2.1.2.2.2.1, ())))) v11).bind fun t12 => bif (t12.1 == (1 : Int)) then (let v13 : Int := x_0.2.2.2.1
 (Qk k (x_0.2.1.1, (x_0.2.1.2.1, (x_0.2.1.2.2.1, (x_0.2.1.2.2.2.1, ())))) v13).bind fun t14 => bif (t14.1 == (1 : Int)) then (bif (!t3.2.1) then (bif (!t5.2.1) then (let v15 : Int := x_0.2.2.2.1
 (Q5 k (1 : Int) v15 (9 : Int)).bind fun t16 => let v17 : Int := (((List.length t16.1) : Nat) : Int)
 bif (v17 == (0 : Int)) then ((Qs k (x_0.2.1.1, (x_0.2.1.2.1, (x_0.2.1.2.2.1, (x_0.2.1.2.2.2.1, ()))))).bind fun t18 => bif (!t18.1) then (bif (t6.1 == (0 : Int)) then (bif (v7 == (0 : Int)) then ((Q8 k ).bind fun t19 => let v20 : Int := (((List.length t19.1) : Nat) : Int)
 bif (v20 == (0 : Int)) then (bif (t8.1 == (0 : Int)) then (bif (v9 == (0 : Int)) then (let v21 : Int := x_0.2.2.2.1
 (Qd k (x_0.2.1.1, (x_0.2.1.2.1, (x_0.2.1.2.2.1, (x_0.2.1.2.2.2.1, ())))) v21).bind fun t22 => bif (!t22.1) then ((Q2 k ).bind fun t23 => bif (Q2G t23.1 (⟨(List.toArray [0, 0, 0, 0])⟩ : ByteArray)) then ((Ql k ).bind fun t24 => K (true, ())) else (K (false, ()))) else (K (false, ()))) else (K (false, ()))) else (K (false, ()))) else (K (false, ()))) else (K (false, ()))) else (K (false, ()))) else (K (false, ()))) else (K (false, ()))) else (K (false, ()))) else (K (false, ()))) else (K (false, ()))) else (K (false, ()))) else (K (false, ()))) else (K (false, ()))
def Qg (k : Nat) (x_0 : QcD) : Option (Bool × Unit) := Qg.c k x_0 some
def Qg.tin : List Ty := [(.pair (.int .i64) (.pair QcE (.pair QcE (.pair (.int .u32) .unit))))]
def Qg.tout : List Ty := [.bool]
def Qg.sem (k : Nat) : QA := QP Qg.tin Qg.tout fun x => Qg k x.1
noncomputable def Qg.ctx (k : Nat) : Ctx := ⟨Try.prog, gam [(4, (Q7.sem k)), (5, (Qt.sem k)), (6, (Q4.sem k)), (7, (Q9.sem k)), (8, (Qj.sem k)), (9, (Qn.sem k)), (10, (Qq.sem k)), (11, (Qk.sem k)), (12, (Q5.sem k)), (13, (Qs.sem k)), (14, (Q8.sem k)), (15, (Qd.sem k)), (16, (Q2.sem k)), (17, (Ql.sem k))]⟩
theorem Qg.gok (k : Nat) : ∀ f, Qo Try.prog f ((Qg.ctx k).Γ f) := (QB (Q7.sem_ok k) (QB (Qt.sem_ok k) (QB (Q4.sem_ok k) (QB (Q9.sem_ok k) (QB (Qj.sem_ok k) (QB (Qn.sem_ok k) (QB (Qq.sem_ok k) (QB (Qk.sem_ok k) (QB (Q5.sem_ok k) (QB (Qs.sem_ok k) (QB (Q8.sem_ok k) (QB (Qd.sem_ok k) (QB (Q2.sem_ok k) (QB (Ql.sem_ok k) QO))))))))))))))
def Qg.ann (k : Nat) : Ann := .nil
theorem Qg.body (k : Nat) : Q15 (Qg.ctx k) Try.f3 (Func.code Try.f3) (Qg.ann k) Qg.tin Qg.tout (fun x K => Qg.c k x.1 K) := by
 intro ρ x K; kernel_rfl
theorem Qg.sem_ok (k : Nat) : Qo Try.prog 3 (Qg.sem k) :=
 Q07 (C := Qg.ctx k) (Qg.gok k) Try.mix (c := Func.code Try.f3) (ann := Qg.ann k) (tin := Qg.tin) (tout := Qg.tout) (fun x K => Qg.c k x.1 K) Try.func3 (by kernel_rfl) (by kernel_rfl) Qc.nil (Qg.body k)
end Go.Am
namespace Go.Am
open Go
theorem Q7s (x : QcD) : Qg 140737488355328 x = some (true, ()) := by kernel_rfl
end Go.Am
