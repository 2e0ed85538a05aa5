/- A part of a proof: a machine of abstract values that tells what functions of the program compute, and the plain facts on them. -/
import Derived.Test.YtpoofchknajlgaaAm6
import Derived.Test.YtpoofchknajlgaaRows
import Derived.KernelRfl
import Derived.Test.YtpoofchknajlgaaProg
import Derived.Test.YtpoofchknajlgaaAm8
set_option linter.unusedVariables false
set_option linter.unusedSimpArgs false
set_option linter.unnecessarySimpa false
set_option linter.unusedSectionVars false
namespace Go.Am
abbrev QfA : Type := ((List Int) × Unit)
abbrev Qfz : Ty := (.arr 32 (.int .u8))
abbrev Qfy : Ty := (.arr 64 (.int .u8))
abbrev Qfx : Ty := (.arr 8 (.int .u32))
abbrev Qfw : Ty := (.arr 64 (.int .u32))
abbrev Qfv : Ty := (.pair (.int .u64) .unit)
abbrev Qfu : Type := ((Unit × (Unit × Unit)) × Unit)
abbrev Qft : Type := ((List Int) × (Unit × (Int × Unit)))
abbrev Qfs : Type := ((List Int) × (List Int) × (List Int) × Unit)
abbrev Qfr : Type := ( Qfu  × (List Int) × Unit)
abbrev Qfq : Type := ( Qft  × (List Int) × Unit)
end Go.Am
namespace Go.Proofs.Ytpoofchknajlgaa
open Go.RowKit Go.Am
theorem Try.own : ownKnob Try.prog.godebug = none := by kernel_rfl
theorem Try.laidOut : laidOutB Try.prog = true := by kernel_rfl
end Go.Proofs.Ytpoofchknajlgaa
namespace Go.Am
open Go
theorem Qf5 {p : Int → Prop} {l : List Int} (h : ∀ i, i < l.length → p (l.getD i 0)) : ∀ x ∈ l, p x := by
 intro x hx
 obtain ⟨i, hi, rfl⟩ := List.getElem_of_mem hx
 have := h i hi
 rw [List.getD_eq_getElem?_getD] at this
 simpa [hi] using this
theorem QdQ : reachBytes = 140737488351232 := rfl
end Go.Am
namespace Go.Am
open Go Go.Proofs
theorem _root_.Go.Proofs.Try.mix : Try.prog.follows .mixedOrders = true := by kernel_rfl
end Go.Am
namespace Go.Am
open Go Go.Proofs Go.Shelf
set_option maxRecDepth 100000
def Bld.fs : List (Nat × Nat) := [(240, 83), (276, 90), (169, 67)]
def Bld.ts : List (Nat × Nat) := [(72, 104), (70, 101), (164, 131), (37, 102), (127, 126)]
def Bld.look : List (Nat × Nat) → Nat → Nat
 | [], n => n
 | (a, b) :: l, n => if n = a then b else Bld.look l n
def Bld.ren : Ren := ⟨Bld.look Bld.fs, Bld.look Bld.ts, fun n => n⟩
theorem Bld.lays240 : Lays.n240 Try.prog Bld.ren := by
 constructor <;> first | kernel_rfl | (intro w; kernel_rfl)
theorem Bld.lays169 : Lays.n169 Try.prog Bld.ren := by
 constructor <;> first | kernel_rfl | (intro w; kernel_rfl)
theorem Bld.x72 : Builder.X72 Try.prog Bld.ren where
 sizeBuilder := by kernel_rfl
 liesBuilder := by kernel_rfl
theorem Bld.extra : Builder.Extra Try.prog Bld.ren where
 sizeBuilder := by kernel_rfl
 liesBuilder := by kernel_rfl
 t5 := by kernel_rfl
 a5 := fun w => by kernel_rfl
 z5 := fun w => by kernel_rfl
 v5 := fun w => by kernel_rfl
 infoByte := by kernel_rfl
 cellsByte := by kernel_rfl
 sizeByte := by kernel_rfl
 neB5 := by decide
theorem Bld.copyCheck : Qz Try.prog 83 (Qdi 106 2) := Qad Bld.lays240 Bld.x72 (by kernel_rfl) (by constructor <;> kernel_rfl)
theorem Bld.string : Qz Try.prog 67 QbH := QcX Bld.lays169 Bld.extra rfl (by constructor <;> kernel_rfl)
end Go.Am
namespace Go.Am
open Go Go.Proofs
set_option maxRecDepth 100000
abbrev Q0X.τ : Type := Qfr 
def Q0X.c (k : Nat) {ρ : Type}  (K : Q0X.τ → Option ρ) : Option ρ :=
 K ((((), ((), ())), ()), ([], ()))
def Q0X (k : Nat)  : Option Q0X.τ := Q0X.c k  some
def Q0X.T : Q1g := ⟨[], [], 0⟩
def Q0X.os : List Out := [⟨.ret, [.auto 0], ⟨[.ptr 0 []], [.pair (.pair (.sfp 0 [0] 106) (.pair (.vbs 1) (.dat .unit))) (.dat .unit), .vec (.int .u8)]⟩⟩]
def Q0X.sem (k : Nat) : QS := Q1i Q0X.T Q0X.os fun x => Q0X k 
noncomputable def Q0X.ctx (k : Nat) : Ctx := ⟨Try.prog, gam []⟩
theorem Q0X.gok (k : Nat) : ∀ f, Qz Try.prog f ((Q0X.ctx k).Γ f) := Q0f
def Q0X.ann (k : Nat) : Ann := .nil
theorem Q0X.body (k : Nat) : Q1j (Q0X.ctx k) Try.f34 (Func.code Try.f34) (Q0X.ann k) Q0X.T Q0X.os (fun x K => Q0X.c k  K) := by
 intro ρ x K; kernel_rfl
theorem Q0X.sem_ok (k : Nat) : Qz Try.prog 34 (Q0X.sem k) :=
 Q0q (C := Q0X.ctx k) (Q0X.gok k) Try.mix (c := Func.code Try.f34) (ann := Q0X.ann k) (T := Q0X.T) (os := Q0X.os) (fun x K => Q0X.c k  K) Try.func34 (by kernel_rfl) (by kernel_rfl) Q1.nil (Q0X.body k) (by kernel_rfl) (by kernel_rfl) (by kernel_rfl)
abbrev Q18.l0.σ : Type := Int × Int × Int × (List Int) × Unit
abbrev Q18.l0.τ : Type := QfA 
def Q18.l0.r (k : Nat) {ρ : Type} (x : Q18.l0.σ) (kn : Q18.l0.σ → Option ρ) (ke : Q18.l0.τ → Option ρ) : Option ρ :=
 bif (decide (x.2.2.1 < x.2.1)) then (let v1 : Int := (IntKind.wrap IntKind.i64 ((8 : Int) * x.2.2.1))
 bif (decide ((0 : Int) ≤ v1)) then (let v2 : Int := (Q2l IntKind.u64 x.1 v1)
 bif (decide (((0 : Int) ≤ x.2.2.1) ∧ (x.2.2.1 < (((List.length x.2.2.2.1) : Nat) : Int)))) then (let v3 : Int := (IntKind.wrap IntKind.i64 (x.2.2.1 + (1 : Int)))
 kn (x.1, (x.2.1, (v3, ((List.set x.2.2.2.1 (Int.toNat x.2.2.1) (IntKind.wrap IntKind.u8 v2)), ()))))) else (none)) else (none)) else (ke (x.2.2.2.1, ()))
def Q18.l0 (k : Nat) : Nat → Q18.l0.σ → Option Q18.l0.τ := Q1p (Q18.l0.r k)
def Q18.l0.T : StT := ⟨.dat (.int .u64) :: us 4 ++ .vsl 0 :: us 4 ++ .dat (.int .i64) :: .dat (.int .i64) :: us 13, [.vec (.int .u8)]⟩
def Q18.l0.os : List Out := [⟨(.exit 0), [.mask [5], .auto 0], ⟨us 5 ++ .vsl 0 :: us 19, [.vec (.int .u8)]⟩⟩]
def Q18.c (k : Nat) {ρ : Type} (n : Int) (bytes : Int) (K : ByteArray × Unit → Option ρ) : Option ρ :=
 bif ((decide (((0 : Int) ≤ bytes) ∧ (bytes ≤ bytes))) && (Nat.ble ((Int.toNat bytes) * 1) 140737488355328)) then (let v0 : Int := (((List.length (List.replicate (Int.toNat bytes) (0 : Int))) : Nat) : Int)
 (Q18.l0 k k (n, (v0, ((0 : Int), ((List.replicate (Int.toNat bytes) (0 : Int)), ()))))).bind fun t4 => K ((bytesOf t4.1), ())) else (none)
def Q18 (k : Nat) (n : Int) (bytes : Int) : Option (ByteArray × Unit) := Q18.c k n bytes some
def Q18.tin : List Ty := [(.int .u64), (.int .i64)]
def Q18.tout : List Ty := [.str]
def Q18.sem (k : Nat) : QS := Q1l Q18.tin Q18.tout fun x => Q18 k x.1 x.2.1
noncomputable def Q18.ctx (k : Nat) : Ctx := ⟨Try.prog, gam []⟩
theorem Q18.gok (k : Nat) : ∀ f, Qz Try.prog f ((Q18.ctx k).Γ f) := Q0f
theorem Q18.l0.round (k : Nat) : Q1n (Q18.ctx k) (QV (Func.code Try.f65) [1, 1, 0, 1, 0, 0]) (.nil) Q18.l0.T [.mask [0, 5, 10, 11], .auto 0] Q18.l0.os (Q18.l0.r k) := by
 intro ρ x kn ke; kernel_rfl
theorem Q18.l0.ok (k : Nat) : StOK 0 Try.prog (.loop (QV (Func.code Try.f65) [1, 1, 0, 1, 0, 0])) (Qf Q18.l0.T Q18.l0.os (Q18.l0 k k)) :=
 Q1o (C := Q18.ctx k) (Q18.gok k) Try.mix Q1.nil (by kernel_rfl) (by kernel_rfl) (by kernel_rfl) (Q18.l0.round k) k
def Q18.ann (k : Nat) : Ann := .node [] none (.nil) (.node [] none (.nil) (.node [] none (.node [] none (.nil) (.node [] none (.node [.mask [0, 5, 10, 11], .auto 0] (some (Qf Q18.l0.T Q18.l0.os (Q18.l0 k k))) .nil .nil) (.nil))) (.nil)))
theorem Q18.body (k : Nat) : Q1M (Q18.ctx k) Try.f65 (Func.code Try.f65) (Q18.ann k) Q18.tin Q18.tout (fun x K => Q18.c k x.1 x.2.1 K) := by
 intro ρ x K; kernel_rfl
theorem Q18.sem_ok (k : Nat) : Qz Try.prog 65 (Q18.sem k) :=
 Q1k (C := Q18.ctx k) (Q18.gok k) Try.mix (c := Func.code Try.f65) (ann := Q18.ann k) (tin := Q18.tin) (tout := Q18.tout) (fun x K => Q18.c k x.1 x.2.1 K) Try.func65 (by kernel_rfl) (by kernel_rfl) (Q1.seq Q1.nil (Q1.seq Q1.nil (Q1.seq (Q1.seq Q1.nil (Q1.block (Q1.loop (by kernel_rfl) (Q18.l0.ok k)))) Q1.nil))) (Q18.body k)
abbrev QF.τ : Type := (Int × Qfu × (List Int) × Unit)
def QF.c (k : Nat) {ρ : Type} (s : ByteArray) (b0 : Qfu) (b1 : (List Int)) (K : QF.τ → Option ρ) : Option ρ :=
 bif (Nat.ble (((List.length b1) + (List.length (Q0Z s))) * 1) 140737488355328) then (K ((((ByteArray.size s) : Nat) : Int), ((((), ((), ())), ()), ((b1 ++ (Q0Z s)), ())))) else (none)
def QF (k : Nat) (s : ByteArray) (b0 : Qfu) (b1 : (List Int)) : Option QF.τ := QF.c k s b0 b1 some
def QF.T : Q1g := ⟨[.ptr 0 [0], .dat .str], [.pair (.pair (.sfp 0 [0] 106) (.pair (.vbs 1) (.dat .unit))) (.dat .unit), .vec (.int .u8)], 1⟩
def QF.os : List Out := [⟨.ret, [.freeze (.slot 0), .auto 1], ⟨[.dat (.int .i64), .undef], [.pair (.pair (.sfp 0 [0] 106) (.pair (.vbs 1) (.dat .unit))) (.dat .unit), .vec (.int .u8)]⟩⟩]
def QF.sem (k : Nat) : QS := Q1i QF.T QF.os fun x => QF k x.1 x.2.1 x.2.2.1
noncomputable def QF.ctx (k : Nat) : Ctx := ⟨Try.prog, gam [(83, (Qdi 106 2))]⟩
theorem QF.gok (k : Nat) : ∀ f, Qz Try.prog f ((QF.ctx k).Γ f) := (Qk Bld.copyCheck Q0f)
def QF.ann (k : Nat) : Ann := .nil
theorem QF.body (k : Nat) : Q1j (QF.ctx k) Try.f66 (Func.code Try.f66) (QF.ann k) QF.T QF.os (fun x K => QF.c k x.1 x.2.1 x.2.2.1 K) := by
 intro ρ x K; kernel_rfl
theorem QF.sem_ok (k : Nat) : Qz Try.prog 66 (QF.sem k) :=
 Q0q (C := QF.ctx k) (QF.gok k) Try.mix (c := Func.code Try.f66) (ann := QF.ann k) (T := QF.T) (os := QF.os) (fun x K => QF.c k x.1 x.2.1 x.2.2.1 K) Try.func66 (by kernel_rfl) (by kernel_rfl) Q1.nil (QF.body k) (by kernel_rfl) (by kernel_rfl) (by kernel_rfl)
abbrev Q0m.τ : Type := Qfr 
def Q0m.c (k : Nat) {ρ : Type} (s : ByteArray) (b0 : Qfu) (b1 : (List Int)) (K : Q0m.τ → Option ρ) : Option ρ :=
 (QF k s (((), ((), ())), ()) b1).bind fun t0 => K ((((), ((), ())), ()), (t0.2.2.1, ()))
def Q0m (k : Nat) (s : ByteArray) (b0 : Qfu) (b1 : (List Int)) : Option Q0m.τ := Q0m.c k s b0 b1 some
def Q0m.T : Q1g := ⟨[.ptr 0 [], .dat .str], [.pair (.pair (.sfp 0 [0] 106) (.pair (.vbs 1) (.dat .unit))) (.dat .unit), .vec (.int .u8)], 1⟩
def Q0m.os : List Out := [⟨.ret, [.auto 1], ⟨[], [.pair (.pair (.sfp 0 [0] 106) (.pair (.vbs 1) (.dat .unit))) (.dat .unit), .vec (.int .u8)]⟩⟩]
def Q0m.sem (k : Nat) : QS := Q1i Q0m.T Q0m.os fun x => Q0m k x.1 x.2.1 x.2.2.1
noncomputable def Q0m.ctx (k : Nat) : Ctx := ⟨Try.prog, gam [(66, (QF.sem k))]⟩
theorem Q0m.gok (k : Nat) : ∀ f, Qz Try.prog f ((Q0m.ctx k).Γ f) := (Qk (QF.sem_ok k) Q0f)
def Q0m.ann (k : Nat) : Ann := .nil
theorem Q0m.body (k : Nat) : Q1j (Q0m.ctx k) Try.f37 (Func.code Try.f37) (Q0m.ann k) Q0m.T Q0m.os (fun x K => Q0m.c k x.1 x.2.1 x.2.2.1 K) := by
 intro ρ x K; kernel_rfl
theorem Q0m.sem_ok (k : Nat) : Qz Try.prog 37 (Q0m.sem k) :=
 Q0q (C := Q0m.ctx k) (Q0m.gok k) Try.mix (c := Func.code Try.f37) (ann := Q0m.ann k) (T := Q0m.T) (os := Q0m.os) (fun x K => Q0m.c k x.1 x.2.1 x.2.2.1 K) Try.func37 (by kernel_rfl) (by kernel_rfl) Q1.nil (Q0m.body k) (by kernel_rfl) (by kernel_rfl) (by kernel_rfl)
abbrev Q0T.τ : Type := Qfr 
def Q0T.c (k : Nat) {ρ : Type} (n : Int) (b0 : Qfu) (b1 : (List Int)) (K : Q0T.τ → Option ρ) : Option ρ :=
 (Q18 k (IntKind.wrap IntKind.u64 n) (4 : Int)).bind fun t0 => (Q0m k t0.1 (((), ((), ())), ()) b1).bind fun t1 => K ((((), ((), ())), ()), (t1.2.1, ()))
def Q0T (k : Nat) (n : Int) (b0 : Qfu) (b1 : (List Int)) : Option Q0T.τ := Q0T.c k n b0 b1 some
def Q0T.T : Q1g := ⟨[.ptr 0 [], .dat (.int .u32)], [.pair (.pair (.sfp 0 [0] 106) (.pair (.vbs 1) (.dat .unit))) (.dat .unit), .vec (.int .u8)], 1⟩
def Q0T.os : List Out := [⟨.ret, [.auto 1], ⟨[], [.pair (.pair (.sfp 0 [0] 106) (.pair (.vbs 1) (.dat .unit))) (.dat .unit), .vec (.int .u8)]⟩⟩]
def Q0T.sem (k : Nat) : QS := Q1i Q0T.T Q0T.os fun x => Q0T k x.1 x.2.1 x.2.2.1
noncomputable def Q0T.ctx (k : Nat) : Ctx := ⟨Try.prog, gam [(65, (Q18.sem k)), (37, (Q0m.sem k))]⟩
theorem Q0T.gok (k : Nat) : ∀ f, Qz Try.prog f ((Q0T.ctx k).Γ f) := (Qk (Q18.sem_ok k) (Qk (Q0m.sem_ok k) Q0f))
def Q0T.ann (k : Nat) : Ann := .nil
theorem Q0T.body (k : Nat) : Q1j (Q0T.ctx k) Try.f35 (Func.code Try.f35) (Q0T.ann k) Q0T.T Q0T.os (fun x K => Q0T.c k x.1 x.2.1 x.2.2.1 K) := by
 intro ρ x K; kernel_rfl
theorem Q0T.sem_ok (k : Nat) : Qz Try.prog 35 (Q0T.sem k) :=
 Q0q (C := Q0T.ctx k) (Q0T.gok k) Try.mix (c := Func.code Try.f35) (ann := Q0T.ann k) (T := Q0T.T) (os := Q0T.os) (fun x K => Q0T.c k x.1 x.2.1 x.2.2.1 K) Try.func35 (by kernel_rfl) (by kernel_rfl) Q1.nil (Q0T.body k) (by kernel_rfl) (by kernel_rfl) (by kernel_rfl)
abbrev Q0O.τ : Type := Qfr 
def Q0O.c (k : Nat) {ρ : Type} (n : Int) (b0 : Qfu) (b1 : (List Int)) (K : Q0O.τ → Option ρ) : Option ρ :=
 (Q18 k n (8 : Int)).bind fun t0 => (Q0m k t0.1 (((), ((), ())), ()) b1).bind fun t1 => K ((((), ((), ())), ()), (t1.2.1, ()))
def Q0O (k : Nat) (n : Int) (b0 : Qfu) (b1 : (List Int)) : Option Q0O.τ := Q0O.c k n b0 b1 some
def Q0O.T : Q1g := ⟨[.ptr 0 [], .dat (.int .u64)], [.pair (.pair (.sfp 0 [0] 106) (.pair (.vbs 1) (.dat .unit))) (.dat .unit), .vec (.int .u8)], 1⟩
def Q0O.os : List Out := [⟨.ret, [.auto 1], ⟨[], [.pair (.pair (.sfp 0 [0] 106) (.pair (.vbs 1) (.dat .unit))) (.dat .unit), .vec (.int .u8)]⟩⟩]
def Q0O.sem (k : Nat) : QS := Q1i Q0O.T Q0O.os fun x => Q0O k x.1 x.2.1 x.2.2.1
noncomputable def Q0O.ctx (k : Nat) : Ctx := ⟨Try.prog, gam [(65, (Q18.sem k)), (37, (Q0m.sem k))]⟩
theorem Q0O.gok (k : Nat) : ∀ f, Qz Try.prog f ((Q0O.ctx k).Γ f) := (Qk (Q18.sem_ok k) (Qk (Q0m.sem_ok k) Q0f))
def Q0O.ann (k : Nat) : Ann := .nil
theorem Q0O.body (k : Nat) : Q1j (Q0O.ctx k) Try.f36 (Func.code Try.f36) (Q0O.ann k) Q0O.T Q0O.os (fun x K => Q0O.c k x.1 x.2.1 x.2.2.1 K) := by
 intro ρ x K; kernel_rfl
theorem Q0O.sem_ok (k : Nat) : Qz Try.prog 36 (Q0O.sem k) :=
 Q0q (C := Q0O.ctx k) (Q0O.gok k) Try.mix (c := Func.code Try.f36) (ann := Q0O.ann k) (T := Q0O.T) (os := Q0O.os) (fun x K => Q0O.c k x.1 x.2.1 x.2.2.1 K) Try.func36 (by kernel_rfl) (by kernel_rfl) Q1.nil (Q0O.body k) (by kernel_rfl) (by kernel_rfl) (by kernel_rfl)
abbrev Q0D.τ : Type := (ByteArray × Unit)
def Q0D.c (k : Nat) {ρ : Type} (b0 : Qfu) (b1 : (List Int)) (K : Q0D.τ → Option ρ) : Option ρ :=
 bif (Nat.ble (List.length b1) 9223372036854775807) then (K ((bytesOf b1), ())) else (none)
def Q0D (k : Nat) (b0 : Qfu) (b1 : (List Int)) : Option Q0D.τ := Q0D.c k b0 b1 some
def Q0D.T : Q1g := ⟨[.ptr 0 []], [.pair (.pair (.sfp 0 [0] 106) (.pair (.vbs 1) (.dat .unit))) (.dat .unit), .vec (.int .u8)], 1⟩
def Q0D.os : List Out := [⟨.ret, [.freeze (.slot 0), .auto 1], ⟨[.dat .str], [.undef]⟩⟩]
def Q0D.sem (k : Nat) : QS := Q1i Q0D.T Q0D.os fun x => Q0D k x.1 x.2.1
noncomputable def Q0D.ctx (k : Nat) : Ctx := ⟨Try.prog, gam [(67, QbH)]⟩
theorem Q0D.gok (k : Nat) : ∀ f, Qz Try.prog f ((Q0D.ctx k).Γ f) := (Qk Bld.string Q0f)
def Q0D.ann (k : Nat) : Ann := .nil
theorem Q0D.body (k : Nat) : Q1j (Q0D.ctx k) Try.f38 (Func.code Try.f38) (Q0D.ann k) Q0D.T Q0D.os (fun x K => Q0D.c k x.1 x.2.1 K) := by
 intro ρ x K; kernel_rfl
theorem Q0D.sem_ok (k : Nat) : Qz Try.prog 38 (Q0D.sem k) :=
 Q0q (C := Q0D.ctx k) (Q0D.gok k) Try.mix (c := Func.code Try.f38) (ann := Q0D.ann k) (T := Q0D.T) (os := Q0D.os) (fun x K => Q0D.c k x.1 x.2.1 K) Try.func38 (by kernel_rfl) (by kernel_rfl) Q1.nil (Q0D.body k) (by kernel_rfl) (by kernel_rfl) (by kernel_rfl)
def Q11.c (k : Nat) {ρ : Type} (n : Int) (K : ByteArray × Unit → Option ρ) : Option ρ :=
 (Q0X k ).bind fun t0 => (Q0O k n (((), ((), ())), ()) t0.2.1).bind fun t1 => (Q0D k (((), ((), ())), ()) t1.2.1).bind fun t2 => K (t2.1, ())
def Q11 (k : Nat) (n : Int) : Option (ByteArray × Unit) := Q11.c k n some
def Q11.tin : List Ty := [(.int .u64)]
def Q11.tout : List Ty := [.str]
def Q11.sem (k : Nat) : QS := Q1l Q11.tin Q11.tout fun x => Q11 k x.1
noncomputable def Q11.ctx (k : Nat) : Ctx := ⟨Try.prog, gam [(34, (Q0X.sem k)), (36, (Q0O.sem k)), (38, (Q0D.sem k))]⟩
theorem Q11.gok (k : Nat) : ∀ f, Qz Try.prog f ((Q11.ctx k).Γ f) := (Qk (Q0X.sem_ok k) (Qk (Q0O.sem_ok k) (Qk (Q0D.sem_ok k) Q0f)))
def Q11.ann (k : Nat) : Ann := .nil
theorem Q11.body (k : Nat) : Q1M (Q11.ctx k) Try.f40 (Func.code Try.f40) (Q11.ann k) Q11.tin Q11.tout (fun x K => Q11.c k x.1 K) := by
 intro ρ x K; kernel_rfl
theorem Q11.sem_ok (k : Nat) : Qz Try.prog 40 (Q11.sem k) :=
 Q1k (C := Q11.ctx k) (Q11.gok k) Try.mix (c := Func.code Try.f40) (ann := Q11.ann k) (tin := Q11.tin) (tout := Q11.tout) (fun x K => Q11.c k x.1 K) Try.func40 (by kernel_rfl) (by kernel_rfl) Q1.nil (Q11.body k)
def Q1v.c (k : Nat) {ρ : Type}  (K : (List Int) × Unit → Option ρ) : Option ρ :=
 let v0 : (List Int) := (List.set (List.set (List.set (List.set (List.set (List.set (List.set (List.set (List.replicate 8 (0 : Int)) 0 (1779033703 : Int)) 1 (3144134277 : Int)) 2 (1013904242 : Int)) 3 (2773480762 : Int)) 4 (1359893119 : Int)) 5 (2600822924 : Int)) 6 (528734635 : Int)) 7 (1541459225 : Int))
 K (v0, ())
def Q1v (k : Nat)  : Option QfA := Q1v.c k  some
def Q1v.tin : List Ty := []
def Q1v.tout : List Ty := [Qfx]
def Q1v.sem (k : Nat) : QS := Q1l Q1v.tin Q1v.tout fun x => Q1v k 
noncomputable def Q1v.ctx (k : Nat) : Ctx := ⟨Try.prog, gam []⟩
theorem Q1v.gok (k : Nat) : ∀ f, Qz Try.prog f ((Q1v.ctx k).Γ f) := Q0f
def Q1v.ann (k : Nat) : Ann := .nil
theorem Q1v.body (k : Nat) : Q1M (Q1v.ctx k) Try.f98 (Func.code Try.f98) (Q1v.ann k) Q1v.tin Q1v.tout (fun x K => Q1v.c k  K) := by
 intro ρ x K; kernel_rfl
theorem Q1v.sem_ok (k : Nat) : Qz Try.prog 98 (Q1v.sem k) :=
 Q1k (C := Q1v.ctx k) (Q1v.gok k) Try.mix (c := Func.code Try.f98) (ann := Q1v.ann k) (tin := Q1v.tin) (tout := Q1v.tout) (fun x K => Q1v.c k  K) Try.func98 (by kernel_rfl) (by kernel_rfl) Q1.nil (Q1v.body k)
abbrev Q1E.τ : Type := (Qft × Unit)
def Q1E.c (k : Nat) {ρ : Type}  (K : Q1E.τ → Option ρ) : Option ρ :=
 (Q1v k ).bind fun t0 => K ((t0.1, ((), ((0 : Int), ()))), ())
def Q1E (k : Nat)  : Option Q1E.τ := Q1E.c k  some
def Q1E.T : Q1g := ⟨[], [], 0⟩
def Q1E.os : List Out := [⟨.ret, [.auto 0], ⟨[.ptr 0 []], [.pair (.dat Qfx) (.pair (.nils) (.dat Qfv))]⟩⟩]
def Q1E.sem (k : Nat) : QS := Q1i Q1E.T Q1E.os fun x => Q1E k 
noncomputable def Q1E.ctx (k : Nat) : Ctx := ⟨Try.prog, gam [(98, (Q1v.sem k))]⟩
theorem Q1E.gok (k : Nat) : ∀ f, Qz Try.prog f ((Q1E.ctx k).Γ f) := (Qk (Q1v.sem_ok k) Q0f)
def Q1E.ann (k : Nat) : Ann := .nil
theorem Q1E.body (k : Nat) : Q1j (Q1E.ctx k) Try.f91 (Func.code Try.f91) (Q1E.ann k) Q1E.T Q1E.os (fun x K => Q1E.c k  K) := by
 intro ρ x K; kernel_rfl
theorem Q1E.sem_ok (k : Nat) : Qz Try.prog 91 (Q1E.sem k) :=
 Q0q (C := Q1E.ctx k) (Q1E.gok k) Try.mix (c := Func.code Try.f91) (ann := Q1E.ann k) (T := Q1E.T) (os := Q1E.os) (fun x K => Q1E.c k  K) Try.func91 (by kernel_rfl) (by kernel_rfl) Q1.nil (Q1E.body k) (by kernel_rfl) (by kernel_rfl) (by kernel_rfl)
def Q0e.c (k : Nat) {ρ : Type} (x_0 : Int) (k_1 : Int) (K : Int × Unit → Option ρ) : Option ρ :=
 let v0 : Int := (Q1f BinOp.and IntKind.u64 (IntKind.wrap IntKind.u64 k_1) (31 : Int))
 bif (decide ((0 : Int) ≤ v0)) then (let v1 : Int := (IntKind.wrap IntKind.u64 ((32 : Int) - v0))
 bif (decide ((0 : Int) ≤ v1)) then (let v2 : Int := (Q1f BinOp.or IntKind.u32 (Q3l IntKind.u32 x_0 v0) (Q2l IntKind.u32 x_0 v1))
 K (v2, ())) else (none)) else (none)
def Q0e (k : Nat) (x_0 : Int) (k_1 : Int) : Option (Int × Unit) := Q0e.c k x_0 k_1 some
def Q0e.tin : List Ty := [(.int .u32), (.int .i64)]
def Q0e.tout : List Ty := [(.int .u32)]
def Q0e.sem (k : Nat) : QS := Q1l Q0e.tin Q0e.tout fun x => Q0e k x.1 x.2.1
noncomputable def Q0e.ctx (k : Nat) : Ctx := ⟨Try.prog, gam []⟩
theorem Q0e.gok (k : Nat) : ∀ f, Qz Try.prog f ((Q0e.ctx k).Γ f) := Q0f
def Q0e.ann (k : Nat) : Ann := .nil
theorem Q0e.body (k : Nat) : Q1M (Q0e.ctx k) Try.f107 (Func.code Try.f107) (Q0e.ann k) Q0e.tin Q0e.tout (fun x K => Q0e.c k x.1 x.2.1 K) := by
 intro ρ x K; kernel_rfl
theorem Q0e.sem_ok (k : Nat) : Qz Try.prog 107 (Q0e.sem k) :=
 Q1k (C := Q0e.ctx k) (Q0e.gok k) Try.mix (c := Func.code Try.f107) (ann := Q0e.ann k) (tin := Q0e.tin) (tout := Q0e.tout) (fun x K => Q0e.c k x.1 x.2.1 K) Try.func107 (by kernel_rfl) (by kernel_rfl) Q1.nil (Q0e.body k)
def Q1b.c (k : Nat) {ρ : Type} (x_0 : Int) (n : Int) (K : Int × Unit → Option ρ) : Option ρ :=
 let v0 : Int := (IntKind.wrap IntKind.i64 ((0 : Int) - n))
 (Q0e k x_0 v0).bind fun t1 => K (t1.1, ())
def Q1b (k : Nat) (x_0 : Int) (n : Int) : Option (Int × Unit) := Q1b.c k x_0 n some
def Q1b.tin : List Ty := [(.int .u32), (.int .i64)]
def Q1b.tout : List Ty := [(.int .u32)]
def Q1b.sem (k : Nat) : QS := Q1l Q1b.tin Q1b.tout fun x => Q1b k x.1 x.2.1
noncomputable def Q1b.ctx (k : Nat) : Ctx := ⟨Try.prog, gam [(107, (Q0e.sem k))]⟩
theorem Q1b.gok (k : Nat) : ∀ f, Qz Try.prog f ((Q1b.ctx k).Γ f) := (Qk (Q0e.sem_ok k) Q0f)
def Q1b.ann (k : Nat) : Ann := .nil
theorem Q1b.body (k : Nat) : Q1M (Q1b.ctx k) Try.f106 (Func.code Try.f106) (Q1b.ann k) Q1b.tin Q1b.tout (fun x K => Q1b.c k x.1 x.2.1 K) := by
 intro ρ x K; kernel_rfl
theorem Q1b.sem_ok (k : Nat) : Qz Try.prog 106 (Q1b.sem k) :=
 Q1k (C := Q1b.ctx k) (Q1b.gok k) Try.mix (c := Func.code Try.f106) (ann := Q1b.ann k) (tin := Q1b.tin) (tout := Q1b.tout) (fun x K => Q1b.c k x.1 x.2.1 K) Try.func106 (by kernel_rfl) (by kernel_rfl) Q1.nil (Q1b.body k)
abbrev Qw.l1.σ : Type := Int × Int × (Nat × Nat) × Int × Int × (List Int) × (List Int) × (List Int) × Unit
abbrev Qw.l1.τ : Type := (Int × (List Int) × (List Int) × (List Int) × Unit)
def Qw.l1.r (k : Nat) {ρ : Type} (x : Qw.l1.σ) (kn : Qw.l1.σ → Option ρ) (ke : Qw.l1.τ → Option ρ) : Option ρ :=
 bif (decide (x.2.2.2.2.1 < x.2.2.2.1)) then (bif (decide (((0 : Int) ≤ x.2.2.2.2.1) ∧ (x.2.2.2.2.1 < ((x.2.2.1.2 : Nat) : Int)))) then (let v4 : Int := (List.getD x.2.2.2.2.2.1 (x.2.2.1.1 + (Int.toNat x.2.2.2.2.1)) (0 : Int))
 bif (decide (((0 : Int) ≤ x.1) ∧ (x.1 < ((64 : Nat) : Int)))) then (let v5 : Int := (List.getD x.2.2.2.2.2.2.2.1 (Int.toNat x.1) (0 : Int))
 let v6 : Int := (Q3l IntKind.u32 v5 (8 : Int))
 bif (decide (((0 : Int) ≤ x.1) ∧ (x.1 < ((64 : Nat) : Int)))) then (let v7 : Int := (IntKind.wrap IntKind.i64 (x.2.2.2.2.1 + (1 : Int)))
 kn (x.1, (x.2.1, ((x.2.2.1.1, x.2.2.1.2), (x.2.2.2.1, (v7, (x.2.2.2.2.2.1, (x.2.2.2.2.2.2.1, ((List.set x.2.2.2.2.2.2.2.1 (Int.toNat x.1) (Q1f BinOp.or IntKind.u32 v6 (IntKind.wrap IntKind.u32 v4))), ()))))))))) else (none)) else (none)) else (none)) else (ke (x.2.1, (x.2.2.2.2.2.1, (x.2.2.2.2.2.2.1, (x.2.2.2.2.2.2.2.1, ())))))
def Qw.l1 (k : Nat) : Nat → Qw.l1.σ → Option Qw.l1.τ := Q1p (Qw.l1.r k)
def Qw.l1.T : StT := ⟨.ptr 0 [] :: us 1 ++ .ptr 1 [] :: .ptr 2 [] :: .dat (.int .i64) :: us 7 ++ .dat (.int .i64) :: us 9 ++ .slr 0 [] :: .dat (.int .i64) :: .dat (.int .i64) :: us 58, [.dat Qfy, .dat Qfw, .dat Qfw]⟩
def Qw.l1.os : List Out := [⟨(.exit 2), [.mask [0, 2, 3, 12], .auto 1], ⟨.ptr 0 [] :: us 1 ++ .ptr 1 [] :: .ptr 2 [] :: us 8 ++ .dat (.int .i64) :: us 70, [.dat Qfy, .dat Qfw, .dat Qfw]⟩⟩]
abbrev Qw.l0.σ : Type := Int × (List Int) × (List Int) × (List Int) × Unit
abbrev Qw.l0.τ : Type := Qfs 
def Qw.l0.r (k : Nat) {ρ : Type} (x : Qw.l0.σ) (kn : Qw.l0.σ → Option ρ) (ke : Qw.l0.τ → Option ρ) : Option ρ :=
 bif (decide (x.1 < (16 : Int))) then (let v0 : Int := (IntKind.wrap IntKind.i64 ((4 : Int) * x.1))
 let v1 : Int := (IntKind.wrap IntKind.i64 (x.1 + (1 : Int)))
 let v2 : Int := (IntKind.wrap IntKind.i64 ((4 : Int) * v1))
 bif (decide (((0 : Int) ≤ v0) ∧ ((v0 ≤ v2) ∧ (v2 ≤ ((64 : Nat) : Int))))) then (let v3 : Int := (((Int.toNat (v2 - v0)) : Nat) : Int)
 (Qw.l1 k k (x.1, (x.1, (((Int.toNat v0), (Int.toNat (v2 - v0))), (v3, ((0 : Int), (x.2.1, (x.2.2.1, (x.2.2.2.1, ()))))))))).bind fun t8 => let v9 : Int := (IntKind.wrap IntKind.i64 (t8.1 + (1 : Int)))
 kn (v9, (t8.2.1, (t8.2.2.1, (t8.2.2.2.1, ()))))) else (none)) else (ke (x.2.1, (x.2.2.1, (x.2.2.2.1, ()))))
def Qw.l0 (k : Nat) : Nat → Qw.l0.σ → Option Qw.l0.τ := Q1p (Qw.l0.r k)
def Qw.l0.T : StT := ⟨.ptr 0 [] :: us 1 ++ .ptr 1 [] :: .ptr 2 [] :: us 8 ++ .dat (.int .i64) :: us 70, [.dat Qfy, .dat Qfw, .dat Qfw]⟩
def Qw.l0.os : List Out := [⟨(.exit 0), [.mask [2, 3], .auto 1], ⟨us 2 ++ .ptr 1 [] :: .ptr 2 [] :: us 79, [.dat Qfy, .dat Qfw, .dat Qfw]⟩⟩]
abbrev Qw.l2.σ : Type := Int × (List Int) × (List Int) × (List Int) × Unit
abbrev Qw.l2.τ : Type := Qfs 
def Qw.l2.r (k : Nat) {ρ : Type} (x : Qw.l2.σ) (kn : Qw.l2.σ → Option ρ) (ke : Qw.l2.τ → Option ρ) : Option ρ :=
 bif (decide (x.1 < (64 : Int))) then (let v11 : Int := (IntKind.wrap IntKind.i64 (x.1 - (2 : Int)))
 bif (decide (((0 : Int) ≤ v11) ∧ (v11 < ((64 : Nat) : Int)))) then (let v12 : Int := (List.getD x.2.2.2.1 (Int.toNat v11) (0 : Int))
 let v13 : Int := (IntKind.wrap IntKind.i64 (x.1 - (15 : Int)))
 bif (decide (((0 : Int) ≤ v13) ∧ (v13 < ((64 : Nat) : Int)))) then (let v14 : Int := (List.getD x.2.2.2.1 (Int.toNat v13) (0 : Int))
 (Q1b k v12 (17 : Int)).bind fun t15 => (Q1b k v12 (19 : Int)).bind fun t16 => let v17 : Int := (Q1f BinOp.xor IntKind.u32 t15.1 t16.1)
 let v18 : Int := (Q2l IntKind.u32 v12 (10 : Int))
 (Q1b k v14 (7 : Int)).bind fun t19 => (Q1b k v14 (18 : Int)).bind fun t20 => let v21 : Int := (Q1f BinOp.xor IntKind.u32 t19.1 t20.1)
 let v22 : Int := (Q2l IntKind.u32 v14 (3 : Int))
 let v23 : Int := (IntKind.wrap IntKind.i64 (x.1 - (7 : Int)))
 bif (decide (((0 : Int) ≤ v23) ∧ (v23 < ((64 : Nat) : Int)))) then (let v24 : Int := (List.getD x.2.2.2.1 (Int.toNat v23) (0 : Int))
 let v25 : Int := (IntKind.wrap IntKind.u32 ((Q1f BinOp.xor IntKind.u32 v17 v18) + v24))
 let v26 : Int := (IntKind.wrap IntKind.u32 (v25 + (Q1f BinOp.xor IntKind.u32 v21 v22)))
 let v27 : Int := (IntKind.wrap IntKind.i64 (x.1 - (16 : Int)))
 bif (decide (((0 : Int) ≤ v27) ∧ (v27 < ((64 : Nat) : Int)))) then (let v28 : Int := (List.getD x.2.2.2.1 (Int.toNat v27) (0 : Int))
 let v29 : Int := (IntKind.wrap IntKind.u32 (v26 + v28))
 bif (decide (((0 : Int) ≤ x.1) ∧ (x.1 < ((64 : Nat) : Int)))) then (let v30 : Int := (IntKind.wrap IntKind.i64 (x.1 + (1 : Int)))
 kn (v30, (x.2.1, (x.2.2.1, ((List.set x.2.2.2.1 (Int.toNat x.1) v29), ()))))) else (none)) else (none)) else (none)) else (none)) else (none)) else (ke (x.2.1, (x.2.2.1, (x.2.2.2.1, ()))))
def Qw.l2 (k : Nat) : Nat → Qw.l2.σ → Option Qw.l2.τ := Q1p (Qw.l2.r k)
def Qw.l2.T : StT := ⟨us 2 ++ .ptr 1 [] :: .ptr 2 [] :: us 3 ++ .dat (.int .i64) :: us 75, [.dat Qfy, .dat Qfw, .dat Qfw]⟩
def Qw.l2.os : List Out := [⟨(.exit 4), [.mask [2, 3], .auto 1], ⟨us 2 ++ .ptr 1 [] :: .ptr 2 [] :: us 79, [.dat Qfy, .dat Qfw, .dat Qfw]⟩⟩]
abbrev Qw.τ : Type := ((List Int) × (List Int) × Unit)
def Qw.c (k : Nat) {ρ : Type} (b0 : (List Int)) (K : Qw.τ → Option ρ) : Option ρ :=
 (Qw.l0 k k ((0 : Int), (b0, ((List.replicate 64 (0 : Int)), ((List.replicate 64 (0 : Int)), ()))))).bind fun t10 => (Qw.l2 k k ((16 : Int), (t10.1, (t10.2.1, (t10.2.2.1, ()))))).bind fun t31 => let v32 : (List Int) := t31.2.2.1
 K (v32, (t31.1, ()))
def Qw (k : Nat) (b0 : (List Int)) : Option Qw.τ := Qw.c k b0 some
def Qw.T : Q1g := ⟨[.ptr 0 []], [.dat Qfy], 1⟩
def Qw.os : List Out := [⟨.ret, [.freeze (.slot 0), .auto 1], ⟨[.dat Qfw], [.dat Qfy]⟩⟩]
def Qw.sem (k : Nat) : QS := Q1i Qw.T Qw.os fun x => Qw k x.1
noncomputable def Qw.ctx (k : Nat) : Ctx := ⟨Try.prog, gam [(106, (Q1b.sem k))]⟩
theorem Qw.gok (k : Nat) : ∀ f, Qz Try.prog f ((Qw.ctx k).Γ f) := (Qk (Q1b.sem_ok k) Q0f)
theorem Qw.l1.round (k : Nat) : Q1n (Qw.ctx k) (QV (Func.code Try.f104) [1, 1, 0, 1, 0, 0, 1, 1, 0, 0, 1, 1, 0, 0]) (.nil) Qw.l1.T [.mask [0, 2, 3, 4, 12, 22, 23, 24], .auto 1] Qw.l1.os (Qw.l1.r k) := by
 intro ρ x kn ke; kernel_rfl
theorem Qw.l1.ok (k : Nat) : StOK 1 Try.prog (.loop (QV (Func.code Try.f104) [1, 1, 0, 1, 0, 0, 1, 1, 0, 0, 1, 1, 0, 0])) (Qf Qw.l1.T Qw.l1.os (Qw.l1 k k)) :=
 Q1o (C := Qw.ctx k) (Qw.gok k) Try.mix Q1.nil (by kernel_rfl) (by kernel_rfl) (by kernel_rfl) (Qw.l1.round k) k
theorem Qw.l0.round (k : Nat) : Q1n (Qw.ctx k) (QV (Func.code Try.f104) [1, 1, 0, 1, 0, 0]) (.node [] none (.nil) (.node [] none (.nil) (.node [] none (.node [] none (.node [] none (.nil) (.node [] none (.nil) (.node [] none (.node [.mask [0, 2, 3, 4, 12, 22, 23, 24], .auto 1] (some (Qf Qw.l1.T Qw.l1.os (Qw.l1 k k))) .nil .nil) (.nil)))) (.nil)) (.nil)))) Qw.l0.T [.mask [0, 2, 3, 12], .auto 1] Qw.l0.os (Qw.l0.r k) := by
 intro ρ x kn ke; kernel_rfl
theorem Qw.l0.ok (k : Nat) : StOK 1 Try.prog (.loop (QV (Func.code Try.f104) [1, 1, 0, 1, 0, 0])) (Qf Qw.l0.T Qw.l0.os (Qw.l0 k k)) :=
 Q1o (C := Qw.ctx k) (Qw.gok k) Try.mix (Q1.seq Q1.nil (Q1.seq Q1.nil (Q1.seq (Q1.block (Q1.seq Q1.nil (Q1.seq Q1.nil (Q1.block (Q1.loop (by kernel_rfl) (Qw.l1.ok k)))))) Q1.nil))) (by kernel_rfl) (by kernel_rfl) (by kernel_rfl) (Qw.l0.round k) k
theorem Qw.l2.round (k : Nat) : Q1n (Qw.ctx k) (QV (Func.code Try.f104) [1, 1, 1, 0, 1, 0, 0]) (.nil) Qw.l2.T [.mask [2, 3, 7], .auto 1] Qw.l2.os (Qw.l2.r k) := by
 intro ρ x kn ke; kernel_rfl
theorem Qw.l2.ok (k : Nat) : StOK 1 Try.prog (.loop (QV (Func.code Try.f104) [1, 1, 1, 0, 1, 0, 0])) (Qf Qw.l2.T Qw.l2.os (Qw.l2 k k)) :=
 Q1o (C := Qw.ctx k) (Qw.gok k) Try.mix Q1.nil (by kernel_rfl) (by kernel_rfl) (by kernel_rfl) (Qw.l2.round k) k
def Qw.ann (k : Nat) : Ann := .node [] none (.nil) (.node [] none (.nil) (.node [] none (.node [] none (.nil) (.node [] none (.node [.mask [0, 2, 3, 12], .auto 1] (some (Qf Qw.l0.T Qw.l0.os (Qw.l0 k k))) .nil .nil) (.nil))) (.node [] none (.node [] none (.nil) (.node [] none (.node [.mask [2, 3, 7], .auto 1] (some (Qf Qw.l2.T Qw.l2.os (Qw.l2 k k))) .nil .nil) (.nil))) (.nil))))
theorem Qw.body (k : Nat) : Q1j (Qw.ctx k) Try.f104 (Func.code Try.f104) (Qw.ann k) Qw.T Qw.os (fun x K => Qw.c k x.1 K) := by
 intro ρ x K; kernel_rfl
theorem Qw.sem_ok (k : Nat) : Qz Try.prog 104 (Qw.sem k) :=
 Q0q (C := Qw.ctx k) (Qw.gok k) Try.mix (c := Func.code Try.f104) (ann := Qw.ann k) (T := Qw.T) (os := Qw.os) (fun x K => Qw.c k x.1 K) Try.func104 (by kernel_rfl) (by kernel_rfl) (Q1.seq Q1.nil (Q1.seq Q1.nil (Q1.seq (Q1.seq Q1.nil (Q1.block (Q1.loop (by kernel_rfl) (Qw.l0.ok k)))) (Q1.seq (Q1.seq Q1.nil (Q1.block (Q1.loop (by kernel_rfl) (Qw.l2.ok k)))) Q1.nil)))) (Qw.body k) (by kernel_rfl) (by kernel_rfl) (by kernel_rfl)
abbrev Q14.τ : Type := QfA 
def Q14.c (k : Nat) {ρ : Type}  (K : Q14.τ → Option ρ) : Option ρ :=
 let v0 : (List Int) := (List.set (List.set (List.set (List.set (List.set (List.set (List.set (List.set (List.set (List.set (List.set (List.set (List.set (List.set (List.set (List.set (List.set (List.set (List.set (List.set (List.set (List.set (List.set (List.set (List.set (List.set (List.set (List.set (List.set (List.set (List.set (List.set (List.set (List.set (List.set (List.set (List.set (List.set (List.set (List.set (List.set (List.set (List.set (List.set (List.set (List.set (List.set (List.set (List.set (List.set (List.set (List.set (List.set (List.set (List.set (List.set (List.set (List.set (List.set (List.set (List.set (List.set (List.set (List.set (List.replicate 64 (0 : Int)) 0 (1116352408 : Int)) 1 (1899447441 : Int)) 2 (3049323471 : Int)) 3 (3921009573 : Int)) 4 (961987163 : Int)) 5 (1508970993 : Int)) 6 (2453635748 : Int)) 7 (2870763221 : Int)) 8 (3624381080 : Int)) 9 (310598401 : Int)) 10 (607225278 : Int)) 11 (1426881987 : Int)) 12 (1925078388 : Int)) 13 (2162078206 : Int)) 14 (2614888103 : Int)) 15 (3248222580 : Int)) 16 (3835390401 : Int)) 17 (4022224774 : Int)) 18 (264347078 : Int)) 19 (604807628 : Int)) 20 (770255983 : Int)) 21 (1249150122 : Int)) 22 (1555081692 : Int)) 23 (1996064986 : Int)) 24 (2554220882 : Int)) 25 (2821834349 : Int)) 26 (2952996808 : Int)) 27 (3210313671 : Int)) 28 (3336571891 : Int)) 29 (3584528711 : Int)) 30 (113926993 : Int)) 31 (338241895 : Int)) 32 (666307205 : Int)) 33 (773529912 : Int)) 34 (1294757372 : Int)) 35 (1396182291 : Int)) 36 (1695183700 : Int)) 37 (1986661051 : Int)) 38 (2177026350 : Int)) 39 (2456956037 : Int)) 40 (2730485921 : Int)) 41 (2820302411 : Int)) 42 (3259730800 : Int)) 43 (3345764771 : Int)) 44 (3516065817 : Int)) 45 (3600352804 : Int)) 46 (4094571909 : Int)) 47 (275423344 : Int)) 48 (430227734 : Int)) 49 (506948616 : Int)) 50 (659060556 : Int)) 51 (883997877 : Int)) 52 (958139571 : Int)) 53 (1322822218 : Int)) 54 (1537002063 : Int)) 55 (1747873779 : Int)) 56 (1955562222 : Int)) 57 (2024104815 : Int)) 58 (2227730452 : Int)) 59 (2361852424 : Int)) 60 (2428436474 : Int)) 61 (2756734187 : Int)) 62 (3204031479 : Int)) 63 (3329325298 : Int))
 K (v0, ())
def Q14 (k : Nat)  : Option Q14.τ := Q14.c k  some
def Q14.T : Q1g := ⟨[], [], 0⟩
def Q14.os : List Out := [⟨.ret, [.auto 0], ⟨[.ptr 0 []], [.dat Qfw]⟩⟩]
def Q14.sem (k : Nat) : QS := Q1i Q14.T Q14.os fun x => Q14 k 
noncomputable def Q14.ctx (k : Nat) : Ctx := ⟨Try.prog, gam []⟩
theorem Q14.gok (k : Nat) : ∀ f, Qz Try.prog f ((Q14.ctx k).Γ f) := Q0f
def Q14.ann (k : Nat) : Ann := .nil
theorem Q14.body (k : Nat) : Q1j (Q14.ctx k) Try.f105 (Func.code Try.f105) (Q14.ann k) Q14.T Q14.os (fun x K => Q14.c k  K) := by
 intro ρ x K; kernel_rfl
theorem Q14.sem_ok (k : Nat) : Qz Try.prog 105 (Q14.sem k) :=
 Q0q (C := Q14.ctx k) (Q14.gok k) Try.mix (c := Func.code Try.f105) (ann := Q14.ann k) (T := Q14.T) (os := Q14.os) (fun x K => Q14.c k  K) Try.func105 (by kernel_rfl) (by kernel_rfl) Q1.nil (Q14.body k) (by kernel_rfl) (by kernel_rfl) (by kernel_rfl)
abbrev Q0l.l0.σ : Type := Int × (List Int) × (List Int) × (List Int) × (List Int) × (List Int) × Unit
abbrev Q0l.l0.τ : Type := Qfs 
def Q0l.l0.r (k : Nat) {ρ : Type} (x : Q0l.l0.σ) (kn : Q0l.l0.σ → Option ρ) (ke : Q0l.l0.τ → Option ρ) : Option ρ :=
 bif (decide (x.1 < (64 : Int))) then (let v2 : Int := (List.getD x.2.2.2.2.2.1 0 (0 : Int))
 let v3 : Int := (List.getD x.2.2.2.2.2.1 4 (0 : Int))
 (Q1b k v3 (6 : Int)).bind fun t4 => (Q1b k v3 (11 : Int)).bind fun t5 => let v6 : Int := (Q1f BinOp.xor IntKind.u32 t4.1 t5.1)
 (Q1b k v3 (25 : Int)).bind fun t7 => let v8 : Int := (Q1f BinOp.xor IntKind.u32 v6 t7.1)
 (Q1b k v2 (2 : Int)).bind fun t9 => (Q1b k v2 (13 : Int)).bind fun t10 => let v11 : Int := (Q1f BinOp.xor IntKind.u32 t9.1 t10.1)
 (Q1b k v2 (22 : Int)).bind fun t12 => let v13 : Int := (Q1f BinOp.xor IntKind.u32 v11 t12.1)
 let v14 : Int := (List.getD x.2.2.2.2.2.1 5 (0 : Int))
 let v15 : Int := (List.getD x.2.2.2.2.2.1 6 (0 : Int))
 let v16 : Int := (Q1f BinOp.xor IntKind.u32 (Q1f BinOp.and IntKind.u32 v3 v14) (Q1f BinOp.and IntKind.u32 (notI IntKind.u32 v3) v15))
 let v17 : Int := (List.getD x.2.2.2.2.2.1 1 (0 : Int))
 let v18 : Int := (List.getD x.2.2.2.2.2.1 2 (0 : Int))
 let v19 : Int := (Q1f BinOp.xor IntKind.u32 (Q1f BinOp.and IntKind.u32 v2 v17) (Q1f BinOp.and IntKind.u32 v2 v18))
 let v20 : Int := (List.getD x.2.2.2.2.2.1 1 (0 : Int))
 let v21 : Int := (List.getD x.2.2.2.2.2.1 2 (0 : Int))
 let v22 : Int := (Q1f BinOp.xor IntKind.u32 v19 (Q1f BinOp.and IntKind.u32 v20 v21))
 let v23 : Int := (List.getD x.2.2.2.2.2.1 7 (0 : Int))
 let v24 : Int := (IntKind.wrap IntKind.u32 (v23 + v8))
 let v25 : Int := (IntKind.wrap IntKind.u32 (v24 + v16))
 bif (decide (((0 : Int) ≤ x.1) ∧ (x.1 < ((64 : Nat) : Int)))) then (let v26 : Int := (List.getD x.2.2.2.2.1 (Int.toNat x.1) (0 : Int))
 let v27 : Int := (IntKind.wrap IntKind.u32 (v25 + v26))
 bif (decide (((0 : Int) ≤ x.1) ∧ (x.1 < ((64 : Nat) : Int)))) then (let v28 : Int := (List.getD x.2.2.2.1 (Int.toNat x.1) (0 : Int))
 let v29 : Int := (IntKind.wrap IntKind.u32 (v27 + v28))
 let v30 : Int := (IntKind.wrap IntKind.u32 (v29 + v13))
 let v31 : Int := (IntKind.wrap IntKind.u32 (v30 + v22))
 let v32 : Int := (List.getD x.2.2.2.2.2.1 0 (0 : Int))
 let v33 : Int := (List.getD x.2.2.2.2.2.1 1 (0 : Int))
 let v34 : Int := (List.getD x.2.2.2.2.2.1 2 (0 : Int))
 let v35 : Int := (List.getD x.2.2.2.2.2.1 3 (0 : Int))
 let v36 : Int := (IntKind.wrap IntKind.u32 (v35 + v29))
 let v37 : Int := (List.getD x.2.2.2.2.2.1 4 (0 : Int))
 let v38 : Int := (List.getD x.2.2.2.2.2.1 5 (0 : Int))
 let v39 : Int := (List.getD x.2.2.2.2.2.1 6 (0 : Int))
 let v40 : (List Int) := (List.set (List.set (List.set (List.set (List.set (List.set (List.set (List.set (List.replicate 8 (0 : Int)) 0 v31) 1 v32) 2 v33) 3 v34) 4 v36) 5 v37) 6 v38) 7 v39)
 let v41 : Int := (IntKind.wrap IntKind.i64 (x.1 + (1 : Int)))
 kn (v41, (x.2.1, (x.2.2.1, (x.2.2.2.1, (x.2.2.2.2.1, (v40, ()))))))) else (none)) else (none)) else (ke (x.2.1, (x.2.2.1, (x.2.2.2.2.2.1, ()))))
def Q0l.l0 (k : Nat) : Nat → Q0l.l0.σ → Option Q0l.l0.τ := Q1p (Q0l.l0.r k)
def Q0l.l0.T : StT := ⟨us 2 ++ .ptr 0 [] :: us 1 ++ .ptr 1 [] :: .ptr 2 [] :: .ptr 3 [] :: .ptr 4 [] :: us 12 ++ .dat (.int .i64) :: us 99, [.dat Qfx, .dat Qfx, .dat Qfw, .dat Qfw, .dat Qfx]⟩
def Q0l.l0.os : List Out := [⟨(.exit 0), [.mask [2, 4, 7], .auto 0], ⟨us 2 ++ .ptr 0 [] :: us 1 ++ .ptr 1 [] :: us 2 ++ .ptr 2 [] :: us 112, [.dat Qfx, .dat Qfx, .dat Qfx]⟩⟩]
abbrev Q0l.l1.σ : Type := Int × (List Int) × (List Int) × (List Int) × Unit
abbrev Q0l.l1.τ : Type := ((List Int) × (List Int) × Unit)
def Q0l.l1.r (k : Nat) {ρ : Type} (x : Q0l.l1.σ) (kn : Q0l.l1.σ → Option ρ) (ke : Q0l.l1.τ → Option ρ) : Option ρ :=
 bif (decide (x.1 < (8 : Int))) then (bif (decide (((0 : Int) ≤ x.1) ∧ (x.1 < ((8 : Nat) : Int)))) then (let v43 : Int := (List.getD x.2.2.2.1 (Int.toNat x.1) (0 : Int))
 bif (decide (((0 : Int) ≤ x.1) ∧ (x.1 < ((8 : Nat) : Int)))) then (let v44 : Int := (List.getD x.2.1 (Int.toNat x.1) (0 : Int))
 let v45 : Int := (IntKind.wrap IntKind.u32 (v43 + v44))
 bif (decide (((0 : Int) ≤ x.1) ∧ (x.1 < ((8 : Nat) : Int)))) then (let v46 : Int := (IntKind.wrap IntKind.i64 (x.1 + (1 : Int)))
 kn (v46, (x.2.1, (x.2.2.1, ((List.set x.2.2.2.1 (Int.toNat x.1) v45), ()))))) else (none)) else (none)) else (none)) else (ke (x.2.2.1, (x.2.2.2.1, ())))
def Q0l.l1 (k : Nat) : Nat → Q0l.l1.σ → Option Q0l.l1.τ := Q1p (Q0l.l1.r k)
def Q0l.l1.T : StT := ⟨us 2 ++ .ptr 0 [] :: us 1 ++ .ptr 1 [] :: us 2 ++ .ptr 2 [] :: us 99 ++ .dat (.int .i64) :: us 12, [.dat Qfx, .dat Qfx, .dat Qfx]⟩
def Q0l.l1.os : List Out := [⟨(.exit 2), [.mask [4, 7], .auto 0], ⟨us 4 ++ .ptr 0 [] :: us 2 ++ .ptr 1 [] :: us 112, [.dat Qfx, .dat Qfx]⟩⟩]
def Q0l.c (k : Nat) {ρ : Type} (x_0 : (List Int)) (block : (List Int)) (K : (List Int) × Unit → Option ρ) : Option ρ :=
 (Qw k block).bind fun t0 => (Q14 k ).bind fun t1 => (Q0l.l0 k k ((0 : Int), (x_0, ((List.replicate 8 (0 : Int)), (t0.1, (t1.1, (x_0, ()))))))).bind fun t42 => (Q0l.l1 k k ((0 : Int), (t42.1, (t42.2.1, (t42.2.2.1, ()))))).bind fun t47 => let v48 : (List Int) := t47.2.1
 K (v48, ())
def Q0l (k : Nat) (x_0 : (List Int)) (block : (List Int)) : Option QfA := Q0l.c k x_0 block some
def Q0l.tin : List Ty := [Qfx, Qfy]
def Q0l.tout : List Ty := [Qfx]
def Q0l.sem (k : Nat) : QS := Q1l Q0l.tin Q0l.tout fun x => Q0l k x.1 x.2.1
noncomputable def Q0l.ctx (k : Nat) : Ctx := ⟨Try.prog, gam [(104, (Qw.sem k)), (105, (Q14.sem k)), (106, (Q1b.sem k))]⟩
theorem Q0l.gok (k : Nat) : ∀ f, Qz Try.prog f ((Q0l.ctx k).Γ f) := (Qk (Qw.sem_ok k) (Qk (Q14.sem_ok k) (Qk (Q1b.sem_ok k) Q0f)))
theorem Q0l.l0.round (k : Nat) : Q1n (Q0l.ctx k) (QV (Func.code Try.f99) [1, 1, 1, 0, 1, 0, 0]) (.nil) Q0l.l0.T [.mask [2, 4, 5, 6, 7, 20], .auto 0] Q0l.l0.os (Q0l.l0.r k) := by
 intro ρ x kn ke; kernel_rfl
theorem Q0l.l0.ok (k : Nat) : StOK 0 Try.prog (.loop (QV (Func.code Try.f99) [1, 1, 1, 0, 1, 0, 0])) (Qf Q0l.l0.T Q0l.l0.os (Q0l.l0 k k)) :=
 Q1o (C := Q0l.ctx k) (Q0l.gok k) Try.mix Q1.nil (by kernel_rfl) (by kernel_rfl) (by kernel_rfl) (Q0l.l0.round k) k
theorem Q0l.l1.round (k : Nat) : Q1n (Q0l.ctx k) (QV (Func.code Try.f99) [1, 1, 1, 1, 0, 1, 0, 0]) (.nil) Q0l.l1.T [.mask [2, 4, 7, 107], .auto 0] Q0l.l1.os (Q0l.l1.r k) := by
 intro ρ x kn ke; kernel_rfl
theorem Q0l.l1.ok (k : Nat) : StOK 0 Try.prog (.loop (QV (Func.code Try.f99) [1, 1, 1, 1, 0, 1, 0, 0])) (Qf Q0l.l1.T Q0l.l1.os (Q0l.l1 k k)) :=
 Q1o (C := Q0l.ctx k) (Q0l.gok k) Try.mix Q1.nil (by kernel_rfl) (by kernel_rfl) (by kernel_rfl) (Q0l.l1.round k) k
def Q0l.ann (k : Nat) : Ann := .node [] none (.nil) (.node [] none (.nil) (.node [] none (.nil) (.node [] none (.node [] none (.nil) (.node [] none (.node [.mask [2, 4, 5, 6, 7, 20], .auto 0] (some (Qf Q0l.l0.T Q0l.l0.os (Q0l.l0 k k))) .nil .nil) (.nil))) (.node [] none (.node [] none (.nil) (.node [] none (.node [.mask [2, 4, 7, 107], .auto 0] (some (Qf Q0l.l1.T Q0l.l1.os (Q0l.l1 k k))) .nil .nil) (.nil))) (.nil)))))
theorem Q0l.body (k : Nat) : Q1M (Q0l.ctx k) Try.f99 (Func.code Try.f99) (Q0l.ann k) Q0l.tin Q0l.tout (fun x K => Q0l.c k x.1 x.2.1 K) := by
 intro ρ x K; kernel_rfl
theorem Q0l.sem_ok (k : Nat) : Qz Try.prog 99 (Q0l.sem k) :=
 Q1k (C := Q0l.ctx k) (Q0l.gok k) Try.mix (c := Func.code Try.f99) (ann := Q0l.ann k) (tin := Q0l.tin) (tout := Q0l.tout) (fun x K => Q0l.c k x.1 x.2.1 K) Try.func99 (by kernel_rfl) (by kernel_rfl) (Q1.seq Q1.nil (Q1.seq Q1.nil (Q1.seq Q1.nil (Q1.seq (Q1.seq Q1.nil (Q1.block (Q1.loop (by kernel_rfl) (Q0l.l0.ok k)))) (Q1.seq (Q1.seq Q1.nil (Q1.block (Q1.loop (by kernel_rfl) (Q0l.l1.ok k)))) Q1.nil))))) (Q0l.body k)
abbrev Qt.l0.σ : Type := Qft × (List Int) × Unit
abbrev Qt.l0.τ : Type := Qfq 
def Qt.l0.r (k : Nat) {ρ : Type} (x : Qt.l0.σ) (kn : Qt.l0.σ → Option ρ) (ke : Qt.l0.τ → Option ρ) : Option ρ :=
 let v2 : Int := (((List.length x.2.1) : Nat) : Int)
 bif (decide (v2 ≥ (64 : Int))) then (let v3 : (List Int) := x.1.1
 bif (decide (64 ≤ (List.length x.2.1))) then (let v4 : (List Int) := (List.take 64 (List.drop 0 x.2.1))
 (Q0l k v3 v4).bind fun t5 => bif (decide (((0 : Int) ≤ (64 : Int)) ∧ (((64 : Int) ≤ (((List.length x.2.1) : Nat) : Int)) ∧ ((((List.length x.2.1) : Nat) : Int) ≤ (((List.length x.2.1) : Nat) : Int))))) then (kn ((t5.1, ((), (x.1.2.2.1, ()))), ((List.take (Int.toNat ((((List.length x.2.1) : Nat) : Int) - (64 : Int))) (List.drop 64 x.2.1)), ()))) else (none)) else (none)) else (ke ((x.1.1, ((), (x.1.2.2.1, ()))), (x.2.1, ())))
def Qt.l0 (k : Nat) : Nat → Qt.l0.σ → Option Qt.l0.τ := Q1p (Qt.l0.r k)
def Qt.l0.T : StT := ⟨.ptr 0 [] :: us 52, [.pair (.dat Qfx) (.pair (.vsl 1) (.dat Qfv)), .vec (.int .u8)]⟩
def Qt.l0.os : List Out := [⟨(.exit 0), [.mask [], .auto 1], ⟨us 53, [.pair (.dat Qfx) (.pair (.vsl 1) (.dat Qfv)), .vec (.int .u8)]⟩⟩]
abbrev Qt.τ : Type := Qfq 
def Qt.c (k : Nat) {ρ : Type} (s : ByteArray) (b0 : Qft) (K : Qt.τ → Option ρ) : Option ρ :=
 let v0 : Int := b0.2.2.1
 let v1 : Int := (IntKind.wrap IntKind.u64 (v0 + (IntKind.wrap IntKind.u64 (((ByteArray.size s) : Nat) : Int))))
 bif (Nat.ble ((List.length (Q0Z s)) * 1) 140737488355328) then ((Qt.l0 k k ((b0.1, ((), (v1, ()))), ((Q0Z s), ()))).bind fun t6 => K ((t6.1.1, ((), (t6.1.2.2.1, ()))), (t6.2.1, ()))) else (none)
def Qt (k : Nat) (s : ByteArray) (b0 : Qft) : Option Qt.τ := Qt.c k s b0 some
def Qt.T : Q1g := ⟨[.ptr 0 [], .dat .str], [.pair (.dat Qfx) (.pair (.nils) (.dat Qfv))], 1⟩
def Qt.os : List Out := [⟨.ret, [.auto 1], ⟨[], [.pair (.dat Qfx) (.pair (.vsl 1) (.dat Qfv)), .vec (.int .u8)]⟩⟩]
def Qt.sem (k : Nat) : QS := Q1i Qt.T Qt.os fun x => Qt k x.1 x.2.1
noncomputable def Qt.ctx (k : Nat) : Ctx := ⟨Try.prog, gam [(99, (Q0l.sem k))]⟩
theorem Qt.gok (k : Nat) : ∀ f, Qz Try.prog f ((Qt.ctx k).Γ f) := (Qk (Q0l.sem_ok k) Q0f)
theorem Qt.l0.round (k : Nat) : Q1n (Qt.ctx k) (QV (Func.code Try.f92) [1, 1, 1, 0, 0]) (.nil) Qt.l0.T [.mask [0], .auto 1] Qt.l0.os (Qt.l0.r k) := by
 intro ρ x kn ke; kernel_rfl
theorem Qt.l0.ok (k : Nat) : StOK 1 Try.prog (.loop (QV (Func.code Try.f92) [1, 1, 1, 0, 0])) (Qf Qt.l0.T Qt.l0.os (Qt.l0 k k)) :=
 Q1o (C := Qt.ctx k) (Qt.gok k) Try.mix Q1.nil (by kernel_rfl) (by kernel_rfl) (by kernel_rfl) (Qt.l0.round k) k
def Qt.ann (k : Nat) : Ann := .node [] none (.nil) (.node [] none (.nil) (.node [] none (.nil) (.node [] none (.node [.mask [0], .auto 1] (some (Qf Qt.l0.T Qt.l0.os (Qt.l0 k k))) .nil .nil) (.nil))))
theorem Qt.body (k : Nat) : Q1j (Qt.ctx k) Try.f92 (Func.code Try.f92) (Qt.ann k) Qt.T Qt.os (fun x K => Qt.c k x.1 x.2.1 K) := by
 intro ρ x K; kernel_rfl
theorem Qt.sem_ok (k : Nat) : Qz Try.prog 92 (Qt.sem k) :=
 Q0q (C := Qt.ctx k) (Qt.gok k) Try.mix (c := Func.code Try.f92) (ann := Qt.ann k) (T := Qt.T) (os := Qt.os) (fun x K => Qt.c k x.1 x.2.1 K) Try.func92 (by kernel_rfl) (by kernel_rfl) (Q1.seq Q1.nil (Q1.seq Q1.nil (Q1.seq Q1.nil (Q1.block (Q1.loop (by kernel_rfl) (Qt.l0.ok k)))))) (Qt.body k) (by kernel_rfl) (by kernel_rfl) (by kernel_rfl)
abbrev Q0A.τ : Type := (Qft × (List Int) × Qft × (List Int) × Unit)
def Q0A.c (k : Nat) {ρ : Type} (b0 : Qft) (b1 : (List Int)) (K : Q0A.τ → Option ρ) : Option ρ :=
 let v0 : (List Int) := b0.1
 bif (Nat.ble ((List.length b1) * 1) 140737488355328) then (let v1 : Int := b0.2.2.1
 K ((b0.1, ((), (b0.2.2.1, ()))), (b1, ((v0, ((), (v1, ()))), (b1, ()))))) else (none)
def Q0A (k : Nat) (b0 : Qft) (b1 : (List Int)) : Option Q0A.τ := Q0A.c k b0 b1 some
def Q0A.T : Q1g := ⟨[.ptr 0 []], [.pair (.dat Qfx) (.pair (.vsl 1) (.dat Qfv)), .vec (.int .u8)], 1⟩
def Q0A.os : List Out := [⟨.ret, [.auto 1], ⟨[.ptr 2 []], [.pair (.dat Qfx) (.pair (.vsl 1) (.dat Qfv)), .vec (.int .u8), .pair (.dat Qfx) (.pair (.vsl 3) (.dat Qfv)), .vec (.int .u8)]⟩⟩]
def Q0A.sem (k : Nat) : QS := Q1i Q0A.T Q0A.os fun x => Q0A k x.1 x.2.1
noncomputable def Q0A.ctx (k : Nat) : Ctx := ⟨Try.prog, gam []⟩
theorem Q0A.gok (k : Nat) : ∀ f, Qz Try.prog f ((Q0A.ctx k).Γ f) := Q0f
def Q0A.ann (k : Nat) : Ann := .nil
theorem Q0A.body (k : Nat) : Q1j (Q0A.ctx k) Try.f100 (Func.code Try.f100) (Q0A.ann k) Q0A.T Q0A.os (fun x K => Q0A.c k x.1 x.2.1 K) := by
 intro ρ x K; kernel_rfl
theorem Q0A.sem_ok (k : Nat) : Qz Try.prog 100 (Q0A.sem k) :=
 Q0q (C := Q0A.ctx k) (Q0A.gok k) Try.mix (c := Func.code Try.f100) (ann := Q0A.ann k) (T := Q0A.T) (os := Q0A.os) (fun x K => Q0A.c k x.1 x.2.1 K) Try.func100 (by kernel_rfl) (by kernel_rfl) Q1.nil (Q0A.body k) (by kernel_rfl) (by kernel_rfl) (by kernel_rfl)
abbrev Q1d.l0.σ : Type := Int × Int × (List Int) × Unit
abbrev Q1d.l0.τ : Type := QfA 
def Q1d.l0.r (k : Nat) {ρ : Type} (x : Q1d.l0.σ) (kn : Q1d.l0.σ → Option ρ) (ke : Q1d.l0.τ → Option ρ) : Option ρ :=
 bif (decide (x.2.1 < (8 : Int))) then (let v5 : Int := (Q3l IntKind.u64 x.1 (3 : Int))
 let v6 : Int := (IntKind.wrap IntKind.i64 ((7 : Int) - x.2.1))
 let v7 : Int := (IntKind.wrap IntKind.i64 ((8 : Int) * v6))
 bif (decide ((0 : Int) ≤ v7)) then (bif (Nat.ble (((List.length x.2.2.1) + (List.length (List.set (List.replicate 1 (0 : Int)) 0 (IntKind.wrap IntKind.u8 (Q2l IntKind.u64 v5 v7))))) * 1) 140737488355328) then (let v8 : Int := (IntKind.wrap IntKind.i64 (x.2.1 + (1 : Int)))
 kn (x.1, (v8, ((x.2.2.1 ++ (List.set (List.replicate 1 (0 : Int)) 0 (IntKind.wrap IntKind.u8 (Q2l IntKind.u64 v5 v7)))), ())))) else (none)) else (none)) else (ke (x.2.2.1, ()))
def Q1d.l0 (k : Nat) : Nat → Q1d.l0.σ → Option Q1d.l0.τ := Q1p (Q1d.l0.r k)
def Q1d.l0.T : StT := ⟨.dat (.int .u64) :: us 3 ++ .vsl 0 :: us 14 ++ .dat (.int .i64) :: us 15, [.vec (.int .u8)]⟩
def Q1d.l0.os : List Out := [⟨(.exit 0), [.mask [4], .auto 0], ⟨us 4 ++ .vsl 0 :: us 30, [.vec (.int .u8)]⟩⟩]
def Q1d.c (k : Nat) {ρ : Type} (n : Int) (K : ByteArray × Unit → Option ρ) : Option ρ :=
 let v0 : Int := (IntKind.wrap IntKind.i64 (Int.tmod n (64 : Int)))
 let v1 : Int := (IntKind.wrap IntKind.i64 ((119 : Int) - v0))
 let v2 : Int := (IntKind.wrap IntKind.i64 ((1 : Int) + (Int.tmod v1 (64 : Int))))
 let v3 : Int := (IntKind.wrap IntKind.i64 ((1 : Int) + (Int.tmod v1 (64 : Int))))
 let v4 : Int := (IntKind.wrap IntKind.i64 (v3 + (8 : Int)))
 bif ((decide (((0 : Int) ≤ v2) ∧ (v2 ≤ v4))) && (Nat.ble ((Int.toNat v4) * 1) 140737488355328)) then (bif (decide (((0 : Int) ≤ (0 : Int)) ∧ ((0 : Int) < (((List.length (List.replicate (Int.toNat v2) (0 : Int))) : Nat) : Int)))) then ((Q1d.l0 k k (n, ((0 : Int), ((List.set (List.replicate (Int.toNat v2) (0 : Int)) 0 (128 : Int)), ())))).bind fun t9 => K ((bytesOf t9.1), ())) else (none)) else (none)
def Q1d (k : Nat) (n : Int) : Option (ByteArray × Unit) := Q1d.c k n some
def Q1d.tin : List Ty := [(.int .u64)]
def Q1d.tout : List Ty := [.str]
def Q1d.sem (k : Nat) : QS := Q1l Q1d.tin Q1d.tout fun x => Q1d k x.1
noncomputable def Q1d.ctx (k : Nat) : Ctx := ⟨Try.prog, gam []⟩
theorem Q1d.gok (k : Nat) : ∀ f, Qz Try.prog f ((Q1d.ctx k).Γ f) := Q0f
theorem Q1d.l0.round (k : Nat) : Q1n (Q1d.ctx k) (QV (Func.code Try.f101) [1, 1, 1, 1, 0, 1, 0, 0]) (.nil) Q1d.l0.T [.mask [0, 4, 19], .auto 0] Q1d.l0.os (Q1d.l0.r k) := by
 intro ρ x kn ke; kernel_rfl
theorem Q1d.l0.ok (k : Nat) : StOK 0 Try.prog (.loop (QV (Func.code Try.f101) [1, 1, 1, 1, 0, 1, 0, 0])) (Qf Q1d.l0.T Q1d.l0.os (Q1d.l0 k k)) :=
 Q1o (C := Q1d.ctx k) (Q1d.gok k) Try.mix Q1.nil (by kernel_rfl) (by kernel_rfl) (by kernel_rfl) (Q1d.l0.round k) k
def Q1d.ann (k : Nat) : Ann := .node [] none (.nil) (.node [] none (.nil) (.node [] none (.nil) (.node [] none (.nil) (.node [] none (.node [] none (.nil) (.node [] none (.node [.mask [0, 4, 19], .auto 0] (some (Qf Q1d.l0.T Q1d.l0.os (Q1d.l0 k k))) .nil .nil) (.nil))) (.nil)))))
theorem Q1d.body (k : Nat) : Q1M (Q1d.ctx k) Try.f101 (Func.code Try.f101) (Q1d.ann k) Q1d.tin Q1d.tout (fun x K => Q1d.c k x.1 K) := by
 intro ρ x K; kernel_rfl
theorem Q1d.sem_ok (k : Nat) : Qz Try.prog 101 (Q1d.sem k) :=
 Q1k (C := Q1d.ctx k) (Q1d.gok k) Try.mix (c := Func.code Try.f101) (ann := Q1d.ann k) (tin := Q1d.tin) (tout := Q1d.tout) (fun x K => Q1d.c k x.1 K) Try.func101 (by kernel_rfl) (by kernel_rfl) (Q1.seq Q1.nil (Q1.seq Q1.nil (Q1.seq Q1.nil (Q1.seq Q1.nil (Q1.seq (Q1.seq Q1.nil (Q1.block (Q1.loop (by kernel_rfl) (Q1d.l0.ok k)))) Q1.nil))))) (Q1d.body k)
abbrev Qp.l0.σ : Type := Qft × (List Int) × Unit
abbrev Qp.l0.τ : Type := Qfq 
def Qp.l0.r (k : Nat) {ρ : Type} (x : Qp.l0.σ) (kn : Qp.l0.σ → Option ρ) (ke : Qp.l0.τ → Option ρ) : Option ρ :=
 let v2 : Int := (((List.length x.2.1) : Nat) : Int)
 bif (decide (v2 ≥ (64 : Int))) then (let v3 : (List Int) := x.1.1
 bif (decide (64 ≤ (List.length x.2.1))) then (let v4 : (List Int) := (List.take 64 (List.drop 0 x.2.1))
 (Q0l k v3 v4).bind fun t5 => bif (decide (((0 : Int) ≤ (64 : Int)) ∧ (((64 : Int) ≤ (((List.length x.2.1) : Nat) : Int)) ∧ ((((List.length x.2.1) : Nat) : Int) ≤ (((List.length x.2.1) : Nat) : Int))))) then (kn ((t5.1, ((), (x.1.2.2.1, ()))), ((List.take (Int.toNat ((((List.length x.2.1) : Nat) : Int) - (64 : Int))) (List.drop 64 x.2.1)), ()))) else (none)) else (none)) else (ke ((x.1.1, ((), (x.1.2.2.1, ()))), (x.2.1, ())))
def Qp.l0 (k : Nat) : Nat → Qp.l0.σ → Option Qp.l0.τ := Q1p (Qp.l0.r k)
def Qp.l0.T : StT := ⟨.ptr 0 [] :: us 52, [.pair (.dat Qfx) (.pair (.vsl 1) (.dat Qfv)), .vec (.int .u8)]⟩
def Qp.l0.os : List Out := [⟨(.exit 0), [.mask [], .auto 1], ⟨us 53, [.pair (.dat Qfx) (.pair (.vsl 1) (.dat Qfv)), .vec (.int .u8)]⟩⟩]
abbrev Qp.τ : Type := Qfq 
def Qp.c (k : Nat) {ρ : Type} (s : ByteArray) (b0 : Qft) (b1 : (List Int)) (K : Qp.τ → Option ρ) : Option ρ :=
 let v0 : Int := b0.2.2.1
 let v1 : Int := (IntKind.wrap IntKind.u64 (v0 + (IntKind.wrap IntKind.u64 (((ByteArray.size s) : Nat) : Int))))
 bif (Nat.ble (((List.length b1) + (List.length (Q0Z s))) * 1) 140737488355328) then ((Qp.l0 k k ((b0.1, ((), (v1, ()))), ((b1 ++ (Q0Z s)), ()))).bind fun t6 => K ((t6.1.1, ((), (t6.1.2.2.1, ()))), (t6.2.1, ()))) else (none)
def Qp (k : Nat) (s : ByteArray) (b0 : Qft) (b1 : (List Int)) : Option Qp.τ := Qp.c k s b0 b1 some
def Qp.T : Q1g := ⟨[.ptr 0 [], .dat .str], [.pair (.dat Qfx) (.pair (.vsl 1) (.dat Qfv)), .vec (.int .u8)], 1⟩
def Qp.os : List Out := [⟨.ret, [.auto 1], ⟨[], [.pair (.dat Qfx) (.pair (.vsl 1) (.dat Qfv)), .vec (.int .u8)]⟩⟩]
def Qp.sem (k : Nat) : QS := Q1i Qp.T Qp.os fun x => Qp k x.1 x.2.1 x.2.2.1
noncomputable def Qp.ctx (k : Nat) : Ctx := ⟨Try.prog, gam [(99, (Q0l.sem k))]⟩
theorem Qp.gok (k : Nat) : ∀ f, Qz Try.prog f ((Qp.ctx k).Γ f) := (Qk (Q0l.sem_ok k) Q0f)
theorem Qp.l0.round (k : Nat) : Q1n (Qp.ctx k) (QV (Func.code Try.f92) [1, 1, 1, 0, 0]) (.nil) Qp.l0.T [.mask [0], .auto 1] Qp.l0.os (Qp.l0.r k) := by
 intro ρ x kn ke; kernel_rfl
theorem Qp.l0.ok (k : Nat) : StOK 1 Try.prog (.loop (QV (Func.code Try.f92) [1, 1, 1, 0, 0])) (Qf Qp.l0.T Qp.l0.os (Qp.l0 k k)) :=
 Q1o (C := Qp.ctx k) (Qp.gok k) Try.mix Q1.nil (by kernel_rfl) (by kernel_rfl) (by kernel_rfl) (Qp.l0.round k) k
def Qp.ann (k : Nat) : Ann := .node [] none (.nil) (.node [] none (.nil) (.node [] none (.nil) (.node [] none (.node [.mask [0], .auto 1] (some (Qf Qp.l0.T Qp.l0.os (Qp.l0 k k))) .nil .nil) (.nil))))
theorem Qp.body (k : Nat) : Q1j (Qp.ctx k) Try.f92 (Func.code Try.f92) (Qp.ann k) Qp.T Qp.os (fun x K => Qp.c k x.1 x.2.1 x.2.2.1 K) := by
 intro ρ x K; kernel_rfl
theorem Qp.sem_ok (k : Nat) : Qz Try.prog 92 (Qp.sem k) :=
 Q0q (C := Qp.ctx k) (Qp.gok k) Try.mix (c := Func.code Try.f92) (ann := Qp.ann k) (T := Qp.T) (os := Qp.os) (fun x K => Qp.c k x.1 x.2.1 x.2.2.1 K) Try.func92 (by kernel_rfl) (by kernel_rfl) (Q1.seq Q1.nil (Q1.seq Q1.nil (Q1.seq Q1.nil (Q1.block (Q1.loop (by kernel_rfl) (Qp.l0.ok k)))))) (Qp.body k) (by kernel_rfl) (by kernel_rfl) (by kernel_rfl)
abbrev Qj.l1.σ : Type := Int × Int × (List Int) × Int × Int × Qft × (List Int) × (List Int) × (List Int) × Unit
abbrev Qj.l1.τ : Type := ((List Int) × Int × Qft × (List Int) × (List Int) × (List Int) × Unit)
def Qj.l1.r (k : Nat) {ρ : Type} (x : Qj.l1.σ) (kn : Qj.l1.σ → Option ρ) (ke : Qj.l1.τ → Option ρ) : Option ρ :=
 bif (decide (x.2.2.2.2.1 < (4 : Int))) then (let v6 : Int := (IntKind.wrap IntKind.i64 ((4 : Int) * x.1))
 let v7 : Int := (IntKind.wrap IntKind.i64 (v6 + x.2.2.2.2.1))
 let v8 : Int := (IntKind.wrap IntKind.i64 ((3 : Int) - x.2.2.2.2.1))
 let v9 : Int := (IntKind.wrap IntKind.i64 ((8 : Int) * v8))
 bif (decide ((0 : Int) ≤ v9)) then (let v10 : Int := (Q2l IntKind.u32 x.2.1 v9)
 bif (decide (((0 : Int) ≤ v7) ∧ (v7 < ((32 : Nat) : Int)))) then (let v11 : Int := (IntKind.wrap IntKind.i64 (x.2.2.2.2.1 + (1 : Int)))
 kn (x.1, (x.2.1, (x.2.2.1, (x.2.2.2.1, (v11, ((x.2.2.2.2.2.1.1, ((), (x.2.2.2.2.2.1.2.2.1, ()))), (x.2.2.2.2.2.2.1, (x.2.2.2.2.2.2.2.1, ((List.set x.2.2.2.2.2.2.2.2.1 (Int.toNat v7) (IntKind.wrap IntKind.u8 v10)), ())))))))))) else (none)) else (none)) else (ke (x.2.2.1, (x.2.2.2.1, ((x.2.2.2.2.2.1.1, ((), (x.2.2.2.2.2.1.2.2.1, ()))), (x.2.2.2.2.2.2.1, (x.2.2.2.2.2.2.2.1, (x.2.2.2.2.2.2.2.2.1, ())))))))
def Qj.l1 (k : Nat) : Nat → Qj.l1.σ → Option Qj.l1.τ := Q1p (Qj.l1.r k)
def Qj.l1.T : StT := ⟨us 2 ++ .ptr 2 [] :: us 1 ++ .ptr 3 [] :: .dat (.int .i64) :: .dat (.int .u32) :: us 17 ++ .dat Qfx :: .dat (.int .i64) :: us 3 ++ .dat (.int .i64) :: us 16, [.pair (.dat Qfx) (.pair (.vsl 1) (.dat Qfv)), .vec (.int .u8), .dat Qfz, .dat Qfz]⟩
def Qj.l1.os : List Out := [⟨(.exit 2), [.mask [2, 4, 24, 25], .auto 1], ⟨us 2 ++ .ptr 2 [] :: us 1 ++ .ptr 3 [] :: us 19 ++ .dat Qfx :: .dat (.int .i64) :: us 20, [.pair (.dat Qfx) (.pair (.vsl 1) (.dat Qfv)), .vec (.int .u8), .dat Qfz, .dat Qfz]⟩⟩]
abbrev Qj.l0.σ : Type := (List Int) × Int × Qft × (List Int) × (List Int) × (List Int) × Unit
abbrev Qj.l0.τ : Type := (Qft × (List Int) × (List Int) × (List Int) × Unit)
def Qj.l0.r (k : Nat) {ρ : Type} (x : Qj.l0.σ) (kn : Qj.l0.σ → Option ρ) (ke : Qj.l0.τ → Option ρ) : Option ρ :=
 bif (decide (x.2.1 < (8 : Int))) then (bif (decide (((0 : Int) ≤ x.2.1) ∧ (x.2.1 < ((8 : Nat) : Int)))) then (let v5 : Int := (List.getD x.1 (Int.toNat x.2.1) (0 : Int))
 (Qj.l1 k k (x.2.1, (v5, (x.1, (x.2.1, ((0 : Int), ((x.2.2.1.1, ((), (x.2.2.1.2.2.1, ()))), (x.2.2.2.1, (x.2.2.2.2.1, (x.2.2.2.2.2.1, ())))))))))).bind fun t12 => let v13 : Int := (IntKind.wrap IntKind.i64 (t12.2.1 + (1 : Int)))
 kn (t12.1, (v13, ((t12.2.2.1.1, ((), (t12.2.2.1.2.2.1, ()))), (t12.2.2.2.1, (t12.2.2.2.2.1, (t12.2.2.2.2.2.1, ()))))))) else (none)) else (ke ((x.2.2.1.1, ((), (x.2.2.1.2.2.1, ()))), (x.2.2.2.1, (x.2.2.2.2.1, (x.2.2.2.2.2.1, ())))))
def Qj.l0 (k : Nat) : Nat → Qj.l0.σ → Option Qj.l0.τ := Q1p (Qj.l0.r k)
def Qj.l0.T : StT := ⟨us 2 ++ .ptr 2 [] :: us 1 ++ .ptr 3 [] :: us 19 ++ .dat Qfx :: .dat (.int .i64) :: us 20, [.pair (.dat Qfx) (.pair (.vsl 1) (.dat Qfv)), .vec (.int .u8), .dat Qfz, .dat Qfz]⟩
def Qj.l0.os : List Out := [⟨(.exit 0), [.mask [2, 4], .auto 1], ⟨us 2 ++ .ptr 2 [] :: us 1 ++ .ptr 3 [] :: us 41, [.pair (.dat Qfx) (.pair (.vsl 1) (.dat Qfv)), .vec (.int .u8), .dat Qfz, .dat Qfz]⟩⟩]
abbrev Qj.τ : Type := ((List Int) × Qft × (List Int) × Unit)
def Qj.c (k : Nat) {ρ : Type} (b0 : Qft) (b1 : (List Int)) (K : Qj.τ → Option ρ) : Option ρ :=
 (Q0A k (b0.1, ((), (b0.2.2.1, ()))) b1).bind fun t0 => let v1 : Int := t0.1.2.2.1
 (Q1d k v1).bind fun t2 => (Qp k t2.1 (t0.2.2.1.1, ((), (t0.2.2.1.2.2.1, ()))) t0.2.2.2.1).bind fun t3 => let v4 : (List Int) := t3.1.1
 (Qj.l0 k k (v4, ((0 : Int), ((t0.1.1, ((), (t0.1.2.2.1, ()))), (t0.2.1, ((List.replicate 32 (0 : Int)), ((List.replicate 32 (0 : Int)), ()))))))).bind fun t14 => let v15 : (List Int) := t14.2.2.2.1
 K (v15, ((t14.1.1, ((), (t14.1.2.2.1, ()))), (t14.2.1, ())))
def Qj (k : Nat) (b0 : Qft) (b1 : (List Int)) : Option Qj.τ := Qj.c k b0 b1 some
def Qj.T : Q1g := ⟨[.ptr 0 []], [.pair (.dat Qfx) (.pair (.vsl 1) (.dat Qfv)), .vec (.int .u8)], 1⟩
def Qj.os : List Out := [⟨.ret, [.freeze (.slot 0), .auto 1], ⟨[.dat Qfz], [.pair (.dat Qfx) (.pair (.vsl 1) (.dat Qfv)), .vec (.int .u8)]⟩⟩]
def Qj.sem (k : Nat) : QS := Q1i Qj.T Qj.os fun x => Qj k x.1 x.2.1
noncomputable def Qj.ctx (k : Nat) : Ctx := ⟨Try.prog, gam [(100, (Q0A.sem k)), (101, (Q1d.sem k)), (92, (Qp.sem k))]⟩
theorem Qj.gok (k : Nat) : ∀ f, Qz Try.prog f ((Qj.ctx k).Γ f) := (Qk (Q0A.sem_ok k) (Qk (Q1d.sem_ok k) (Qk (Qp.sem_ok k) Q0f)))
theorem Qj.l1.round (k : Nat) : Q1n (Qj.ctx k) (QV (Func.code Try.f93) [1, 1, 1, 1, 1, 0, 1, 0, 0, 1, 1, 0, 0, 1, 1, 0, 0]) (.nil) Qj.l1.T [.mask [2, 4, 5, 6, 24, 25, 29], .auto 1] Qj.l1.os (Qj.l1.r k) := by
 intro ρ x kn ke; kernel_rfl
theorem Qj.l1.ok (k : Nat) : StOK 1 Try.prog (.loop (QV (Func.code Try.f93) [1, 1, 1, 1, 1, 0, 1, 0, 0, 1, 1, 0, 0, 1, 1, 0, 0])) (Qf Qj.l1.T Qj.l1.os (Qj.l1 k k)) :=
 Q1o (C := Qj.ctx k) (Qj.gok k) Try.mix Q1.nil (by kernel_rfl) (by kernel_rfl) (by kernel_rfl) (Qj.l1.round k) k
theorem Qj.l0.round (k : Nat) : Q1n (Qj.ctx k) (QV (Func.code Try.f93) [1, 1, 1, 1, 1, 0, 1, 0, 0]) (.node [] none (.nil) (.node [] none (.nil) (.node [] none (.node [] none (.node [] none (.nil) (.node [] none (.nil) (.node [] none (.node [.mask [2, 4, 5, 6, 24, 25, 29], .auto 1] (some (Qf Qj.l1.T Qj.l1.os (Qj.l1 k k))) .nil .nil) (.nil)))) (.nil)) (.nil)))) Qj.l0.T [.mask [2, 4, 24, 25], .auto 1] Qj.l0.os (Qj.l0.r k) := by
 intro ρ x kn ke; kernel_rfl
theorem Qj.l0.ok (k : Nat) : StOK 1 Try.prog (.loop (QV (Func.code Try.f93) [1, 1, 1, 1, 1, 0, 1, 0, 0])) (Qf Qj.l0.T Qj.l0.os (Qj.l0 k k)) :=
 Q1o (C := Qj.ctx k) (Qj.gok k) Try.mix (Q1.seq Q1.nil (Q1.seq Q1.nil (Q1.seq (Q1.block (Q1.seq Q1.nil (Q1.seq Q1.nil (Q1.block (Q1.loop (by kernel_rfl) (Qj.l1.ok k)))))) Q1.nil))) (by kernel_rfl) (by kernel_rfl) (by kernel_rfl) (Qj.l0.round k) k
def Qj.ann (k : Nat) : Ann := .node [] none (.nil) (.node [] none (.nil) (.node [] none (.nil) (.node [] none (.nil) (.node [] none (.nil) (.node [] none (.node [] none (.nil) (.node [] none (.node [.mask [2, 4, 24, 25], .auto 1] (some (Qf Qj.l0.T Qj.l0.os (Qj.l0 k k))) .nil .nil) (.nil))) (.nil))))))
theorem Qj.body (k : Nat) : Q1j (Qj.ctx k) Try.f93 (Func.code Try.f93) (Qj.ann k) Qj.T Qj.os (fun x K => Qj.c k x.1 x.2.1 K) := by
 intro ρ x K; kernel_rfl
theorem Qj.sem_ok (k : Nat) : Qz Try.prog 93 (Qj.sem k) :=
 Q0q (C := Qj.ctx k) (Qj.gok k) Try.mix (c := Func.code Try.f93) (ann := Qj.ann k) (T := Qj.T) (os := Qj.os) (fun x K => Qj.c k x.1 x.2.1 K) Try.func93 (by kernel_rfl) (by kernel_rfl) (Q1.seq Q1.nil (Q1.seq Q1.nil (Q1.seq Q1.nil (Q1.seq Q1.nil (Q1.seq Q1.nil (Q1.seq (Q1.seq Q1.nil (Q1.block (Q1.loop (by kernel_rfl) (Qj.l0.ok k)))) Q1.nil)))))) (Qj.body k) (by kernel_rfl) (by kernel_rfl) (by kernel_rfl)
def Q1D.c (k : Nat) {ρ : Type} (s : ByteArray) (K : (List Int) × Unit → Option ρ) : Option ρ :=
 (Q1E k ).bind fun t0 => (Qt k s (t0.1.1, ((), (t0.1.2.2.1, ())))).bind fun t1 => (Qj k (t1.1.1, ((), (t1.1.2.2.1, ()))) t1.2.1).bind fun t2 => K (t2.1, ())
def Q1D (k : Nat) (s : ByteArray) : Option QfA := Q1D.c k s some
def Q1D.tin : List Ty := [.str]
def Q1D.tout : List Ty := [Qfz]
def Q1D.sem (k : Nat) : QS := Q1l Q1D.tin Q1D.tout fun x => Q1D k x.1
noncomputable def Q1D.ctx (k : Nat) : Ctx := ⟨Try.prog, gam [(91, (Q1E.sem k)), (92, (Qt.sem k)), (93, (Qj.sem k))]⟩
theorem Q1D.gok (k : Nat) : ∀ f, Qz Try.prog f ((Q1D.ctx k).Γ f) := (Qk (Q1E.sem_ok k) (Qk (Qt.sem_ok k) (Qk (Qj.sem_ok k) Q0f)))
def Q1D.ann (k : Nat) : Ann := .nil
theorem Q1D.body (k : Nat) : Q1M (Q1D.ctx k) Try.f84 (Func.code Try.f84) (Q1D.ann k) Q1D.tin Q1D.tout (fun x K => Q1D.c k x.1 K) := by
 intro ρ x K; kernel_rfl
theorem Q1D.sem_ok (k : Nat) : Qz Try.prog 84 (Q1D.sem k) :=
 Q1k (C := Q1D.ctx k) (Q1D.gok k) Try.mix (c := Func.code Try.f84) (ann := Q1D.ann k) (tin := Q1D.tin) (tout := Q1D.tout) (fun x K => Q1D.c k x.1 K) Try.func84 (by kernel_rfl) (by kernel_rfl) Q1.nil (Q1D.body k)
def Q1s.c (k : Nat) {ρ : Type} (s : ByteArray) (K : (List Int) × Unit → Option ρ) : Option ρ :=
 (Q1D k s).bind fun t0 => let v1 : ByteArray := (bytesOf (List.take 32 (List.drop 0 t0.1)))
 (Q1D k v1).bind fun t2 => K (t2.1, ())
def Q1s (k : Nat) (s : ByteArray) : Option QfA := Q1s.c k s some
def Q1s.tin : List Ty := [.str]
def Q1s.tout : List Ty := [Qfz]
def Q1s.sem (k : Nat) : QS := Q1l Q1s.tin Q1s.tout fun x => Q1s k x.1
noncomputable def Q1s.ctx (k : Nat) : Ctx := ⟨Try.prog, gam [(84, (Q1D.sem k))]⟩
theorem Q1s.gok (k : Nat) : ∀ f, Qz Try.prog f ((Q1s.ctx k).Γ f) := (Qk (Q1D.sem_ok k) Q0f)
def Q1s.ann (k : Nat) : Ann := .nil
theorem Q1s.body (k : Nat) : Q1M (Q1s.ctx k) Try.f68 (Func.code Try.f68) (Q1s.ann k) Q1s.tin Q1s.tout (fun x K => Q1s.c k x.1 K) := by
 intro ρ x K; kernel_rfl
theorem Q1s.sem_ok (k : Nat) : Qz Try.prog 68 (Q1s.sem k) :=
 Q1k (C := Q1s.ctx k) (Q1s.gok k) Try.mix (c := Func.code Try.f68) (ann := Q1s.ann k) (tin := Q1s.tin) (tout := Q1s.tout) (fun x K => Q1s.c k x.1 K) Try.func68 (by kernel_rfl) (by kernel_rfl) Q1.nil (Q1s.body k)
def Q1c.c (k : Nat) {ρ : Type} (s : ByteArray) (K : ByteArray × Unit → Option ρ) : Option ρ :=
 (Q1s k s).bind fun t0 => let v1 : ByteArray := (bytesOf (List.take 4 (List.drop 0 t0.1)))
 K (v1, ())
def Q1c (k : Nat) (s : ByteArray) : Option (ByteArray × Unit) := Q1c.c k s some
def Q1c.tin : List Ty := [.str]
def Q1c.tout : List Ty := [.str]
def Q1c.sem (k : Nat) : QS := Q1l Q1c.tin Q1c.tout fun x => Q1c k x.1
noncomputable def Q1c.ctx (k : Nat) : Ctx := ⟨Try.prog, gam [(68, (Q1s.sem k))]⟩
theorem Q1c.gok (k : Nat) : ∀ f, Qz Try.prog f ((Q1c.ctx k).Γ f) := (Qk (Q1s.sem_ok k) Q0f)
def Q1c.ann (k : Nat) : Ann := .nil
theorem Q1c.body (k : Nat) : Q1M (Q1c.ctx k) Try.f39 (Func.code Try.f39) (Q1c.ann k) Q1c.tin Q1c.tout (fun x K => Q1c.c k x.1 K) := by
 intro ρ x K; kernel_rfl
theorem Q1c.sem_ok (k : Nat) : Qz Try.prog 39 (Q1c.sem k) :=
 Q1k (C := Q1c.ctx k) (Q1c.gok k) Try.mix (c := Func.code Try.f39) (ann := Q1c.ann k) (tin := Q1c.tin) (tout := Q1c.tout) (fun x K => Q1c.c k x.1 K) Try.func39 (by kernel_rfl) (by kernel_rfl) Q1.nil (Q1c.body k)
def Q05.c (k : Nat) {ρ : Type} (epoch : Int) (number : Int) (s : ByteArray) (K : ByteArray × Int × Unit → Option ρ) : Option ρ :=
 bif (decide ((((ByteArray.size s) : Nat) : Int) > (65536 : Int))) then (K ((⟨(List.toArray [])⟩ : ByteArray), ((121 : Int), ()))) else ((Q0X k ).bind fun t0 => (Q0T k (IntKind.wrap IntKind.u32 (((ByteArray.size s) : Nat) : Int)) (((), ((), ())), ()) t0.2.1).bind fun t1 => (Q0O k number (((), ((), ())), ()) t1.2.1).bind fun t2 => (Q0m k s (((), ((), ())), ()) t2.2.1).bind fun t3 => (Q0D k (((), ((), ())), ()) t3.2.1).bind fun t4 => (Q11 k epoch).bind fun t5 => bif (Nat.ble ((ByteArray.size t5.1) + (ByteArray.size t4.1)) 9223372036854775807) then (let v6 : ByteArray := (t5.1 ++ t4.1)
 (Q1c k v6).bind fun t7 => bif (Nat.ble ((ByteArray.size t4.1) + (ByteArray.size t7.1)) 9223372036854775807) then (let v8 : ByteArray := (t4.1 ++ t7.1)
 K (v8, ((0 : Int), ()))) else (none)) else (none))
def Q05 (k : Nat) (epoch : Int) (number : Int) (s : ByteArray) : Option (ByteArray × Int × Unit) := Q05.c k epoch number s some
def Q05.tin : List Ty := [(.int .u64), (.int .u64), .str]
def Q05.tout : List Ty := [.str, (.int .i64)]
def Q05.sem (k : Nat) : QS := Q1l Q05.tin Q05.tout fun x => Q05 k x.1 x.2.1 x.2.2.1
noncomputable def Q05.ctx (k : Nat) : Ctx := ⟨Try.prog, gam [(34, (Q0X.sem k)), (35, (Q0T.sem k)), (36, (Q0O.sem k)), (37, (Q0m.sem k)), (38, (Q0D.sem k)), (40, (Q11.sem k)), (39, (Q1c.sem k))]⟩
theorem Q05.gok (k : Nat) : ∀ f, Qz Try.prog f ((Q05.ctx k).Γ f) := (Qk (Q0X.sem_ok k) (Qk (Q0T.sem_ok k) (Qk (Q0O.sem_ok k) (Qk (Q0m.sem_ok k) (Qk (Q0D.sem_ok k) (Qk (Q11.sem_ok k) (Qk (Q1c.sem_ok k) Q0f)))))))
def Q05.ann (k : Nat) : Ann := .nil
theorem Q05.body (k : Nat) : Q1M (Q05.ctx k) Try.f7 (Func.code Try.f7) (Q05.ann k) Q05.tin Q05.tout (fun x K => Q05.c k x.1 x.2.1 x.2.2.1 K) := by
 intro ρ x K; kernel_rfl
theorem Q05.sem_ok (k : Nat) : Qz Try.prog 7 (Q05.sem k) :=
 Q1k (C := Q05.ctx k) (Q05.gok k) Try.mix (c := Func.code Try.f7) (ann := Q05.ann k) (tin := Q05.tin) (tout := Q05.tout) (fun x K => Q05.c k x.1 x.2.1 x.2.2.1 K) Try.func7 (by kernel_rfl) (by kernel_rfl) Q1.nil (Q05.body k)
end Go.Am
namespace Go.Am
open Go Go.Proofs
set_option maxRecDepth 100000
def Q08.c (k : Nat) {ρ : Type} (epoch : Int) (K : ByteArray × Unit → Option ρ) : Option ρ :=
 (Q11 k epoch).bind fun t0 => bif (Nat.ble (8 + (ByteArray.size t0.1)) 9223372036854775807) then (let v1 : ByteArray := ((⟨(List.toArray [98, 101, 100, 114, 111, 99, 107, 106])⟩ : ByteArray) ++ t0.1)
 (Q1c k v1).bind fun t2 => bif (Nat.ble ((ByteArray.size v1) + (ByteArray.size t2.1)) 9223372036854775807) then (let v3 : ByteArray := (v1 ++ t2.1)
 K (v3, ())) else (none)) else (none)
def Q08 (k : Nat) (epoch : Int) : Option (ByteArray × Unit) := Q08.c k epoch some
def Q08.tin : List Ty := [(.int .u64)]
def Q08.tout : List Ty := [.str]
def Q08.sem (k : Nat) : QS := Q1l Q08.tin Q08.tout fun x => Q08 k x.1
noncomputable def Q08.ctx (k : Nat) : Ctx := ⟨Try.prog, gam [(40, (Q11.sem k)), (39, (Q1c.sem k))]⟩
theorem Q08.gok (k : Nat) : ∀ f, Qz Try.prog f ((Q08.ctx k).Γ f) := (Qk (Q11.sem_ok k) (Qk (Q1c.sem_ok k) Q0f))
def Q08.ann (k : Nat) : Ann := .nil
theorem Q08.body (k : Nat) : Q1M (Q08.ctx k) Try.f9 (Func.code Try.f9) (Q08.ann k) Q08.tin Q08.tout (fun x K => Q08.c k x.1 K) := by
 intro ρ x K; kernel_rfl
theorem Q08.sem_ok (k : Nat) : Qz Try.prog 9 (Q08.sem k) :=
 Q1k (C := Q08.ctx k) (Q08.gok k) Try.mix (c := Func.code Try.f9) (ann := Q08.ann k) (tin := Q08.tin) (tout := Q08.tout) (fun x K => Q08.c k x.1 K) Try.func9 (by kernel_rfl) (by kernel_rfl) Q1.nil (Q08.body k)
end Go.Am
