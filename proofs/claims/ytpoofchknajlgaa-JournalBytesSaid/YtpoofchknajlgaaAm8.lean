/- A part of a proof: a machine of abstract values that tells what functions of the program compute, and the plain facts on them. -/
import Derived.Test.YtpoofchknajlgaaAm6
import Derived.Test.YtpoofchknajlgaaRows
import Derived.KernelRfl
import Derived.Test.YtpoofchknajlgaaProg
import Derived.Test.YtpoofchknajlgaaAm7
set_option linter.unusedVariables false
set_option linter.unusedSimpArgs false
set_option linter.unnecessarySimpa false
set_option linter.unusedSectionVars false
namespace Go.Am
abbrev Qed : Type := ((List Int) × Unit)
abbrev Qec : Ty := (.arr 32 (.int .u8))
abbrev Qeb : Ty := (.arr 64 (.int .u8))
abbrev Qea : Ty := (.arr 8 (.int .u32))
abbrev Qe9 : Ty := (.arr 64 (.int .u32))
abbrev Qe8 : Ty := (.pair (.int .u64) .unit)
abbrev Qe7 : Type := ((Unit × (Unit × Unit)) × Unit)
abbrev Qe6 : Type := ((List Int) × (Unit × (Int × Unit)))
abbrev Qe5 : Type := ((List Int) × (List Int) × (List Int) × Unit)
abbrev Qe4 : Type := ( Qe7  × (List Int) × Unit)
abbrev Qe3 : Type := ( Qe6  × (List Int) × Unit)
end Go.Am
namespace Go.Proofs.Ytpoofchknajlgaa
open Go.RowKit Go.Am
theorem Try.own : ownKnob Try.prog.godebug = none := by kernel_rfl
theorem Try.laidOut : laidOutB Try.prog = true := by kernel_rfl
end Go.Proofs.Ytpoofchknajlgaa
namespace Go.Am
open Go
theorem QdO {p : Int → Prop} {l : List Int} (h : ∀ i, i < l.length → p (l.getD i 0)) : ∀ x ∈ l, p x := by
 intro x hx
 obtain ⟨i, hi, rfl⟩ := List.getElem_of_mem hx
 have := h i hi
 rw [List.getD_eq_getElem?_getD] at this
 simpa [hi] using this
theorem QcB : reachBytes = 140737488351232 := rfl
end Go.Am
namespace Go.Am
open Go Go.Proofs
theorem _root_.Go.Proofs.Try.mix : Try.prog.follows .mixedOrders = true := by kernel_rfl
end Go.Am
namespace Go.Am
open Go Go.Proofs Go.Shelf
set_option maxRecDepth 100000
def Bld.fs : List (Nat × Nat) := [(240, 83), (276, 90), (169, 67)]
def Bld.ts : List (Nat × Nat) := [(72, 104), (70, 101), (164, 131), (37, 102), (127, 126)]
def Bld.look : List (Nat × Nat) → Nat → Nat
 | [], n => n
 | (a, b) :: l, n => if n = a then b else Bld.look l n
def Bld.ren : Ren := ⟨Bld.look Bld.fs, Bld.look Bld.ts, fun n => n⟩
theorem Bld.lays240 : Lays.n240 Try.prog Bld.ren := by
 constructor <;> first | kernel_rfl | (intro w; kernel_rfl)
theorem Bld.lays169 : Lays.n169 Try.prog Bld.ren := by
 constructor <;> first | kernel_rfl | (intro w; kernel_rfl)
theorem Bld.x72 : Builder.X72 Try.prog Bld.ren where
 sizeBuilder := by kernel_rfl
 liesBuilder := by kernel_rfl
theorem Bld.extra : Builder.Extra Try.prog Bld.ren where
 sizeBuilder := by kernel_rfl
 liesBuilder := by kernel_rfl
 t5 := by kernel_rfl
 a5 := fun w => by kernel_rfl
 z5 := fun w => by kernel_rfl
 v5 := fun w => by kernel_rfl
 infoByte := by kernel_rfl
 cellsByte := by kernel_rfl
 sizeByte := by kernel_rfl
 neB5 := by decide
theorem Bld.copyCheck : Qw Try.prog 83 (Qcw 106 2) := Q9l Bld.lays240 Bld.x72 (by kernel_rfl) (by constructor <;> kernel_rfl)
theorem Bld.string : Qw Try.prog 67 QaB := Qbp Bld.lays169 Bld.extra rfl (by constructor <;> kernel_rfl)
end Go.Am
namespace Go.Am
open Go Go.Proofs
set_option maxRecDepth 100000
abbrev Q0G.τ : Type := Qe4 
def Q0G.c (k : Nat) {ρ : Type}  (K : Q0G.τ → Option ρ) : Option ρ :=
 K ((((), ((), ())), ()), ([], ()))
def Q0G (k : Nat)  : Option Q0G.τ := Q0G.c k  some
def Q0G.T : Q13 := ⟨[], [], 0⟩
def Q0G.os : List Out := [⟨.ret, [.auto 0], ⟨[.ptr 0 []], [.pair (.pair (.sfp 0 [0] 106) (.pair (.vbs 1) (.dat .unit))) (.dat .unit), .vec (.int .u8)]⟩⟩]
def Q0G.sem (k : Nat) : QP := Q14 Q0G.T Q0G.os fun x => Q0G k 
noncomputable def Q0G.ctx (k : Nat) : Ctx := ⟨Try.prog, gam []⟩
theorem Q0G.gok (k : Nat) : ∀ f, Qw Try.prog f ((Q0G.ctx k).Γ f) := Q0b
def Q0G.ann (k : Nat) : Ann := .nil
theorem Q0G.body (k : Nat) : Q16 (Q0G.ctx k) Try.f34 (Func.code Try.f34) (Q0G.ann k) Q0G.T Q0G.os (fun x K => Q0G.c k  K) := by
 intro ρ x K; kernel_rfl
theorem Q0G.sem_ok (k : Nat) : Qw Try.prog 34 (Q0G.sem k) :=
 Q0r (C := Q0G.ctx k) (Q0G.gok k) Try.mix (c := Func.code Try.f34) (ann := Q0G.ann k) (T := Q0G.T) (os := Q0G.os) (fun x K => Q0G.c k  K) Try.func34 (by kernel_rfl) (by kernel_rfl) Q1.nil (Q0G.body k) (by kernel_rfl) (by kernel_rfl) (by kernel_rfl)
abbrev Q0S.l0.σ : Type := Int × Int × Int × (List Int) × Unit
abbrev Q0S.l0.τ : Type := Qed 
def Q0S.l0.r (k : Nat) {ρ : Type} (x : Q0S.l0.σ) (kn : Q0S.l0.σ → Option ρ) (ke : Q0S.l0.τ → Option ρ) : Option ρ :=
 bif (decide (x.2.2.1 < x.2.1)) then (let v1 : Int := (IntKind.wrap IntKind.i64 ((8 : Int) * x.2.2.1))
 bif (decide ((0 : Int) ≤ v1)) then (let v2 : Int := (Q1V IntKind.u64 x.1 v1)
 bif (decide (((0 : Int) ≤ x.2.2.1) ∧ (x.2.2.1 < (((List.length x.2.2.2.1) : Nat) : Int)))) then (let v3 : Int := (IntKind.wrap IntKind.i64 (x.2.2.1 + (1 : Int)))
 kn (x.1, (x.2.1, (v3, ((List.set x.2.2.2.1 (Int.toNat x.2.2.1) (IntKind.wrap IntKind.u8 v2)), ()))))) else (none)) else (none)) else (ke (x.2.2.2.1, ()))
def Q0S.l0 (k : Nat) : Nat → Q0S.l0.σ → Option Q0S.l0.τ := Q1j (Q0S.l0.r k)
def Q0S.l0.T : StT := ⟨.dat (.int .u64) :: us 4 ++ .vsl 0 :: us 4 ++ .dat (.int .i64) :: .dat (.int .i64) :: us 13, [.vec (.int .u8)]⟩
def Q0S.l0.os : List Out := [⟨(.exit 0), [.mask [5], .auto 0], ⟨us 5 ++ .vsl 0 :: us 19, [.vec (.int .u8)]⟩⟩]
def Q0S.c (k : Nat) {ρ : Type} (n : Int) (bytes : Int) (K : ByteArray × Unit → Option ρ) : Option ρ :=
 bif ((decide (((0 : Int) ≤ bytes) ∧ (bytes ≤ bytes))) && (Nat.ble ((Int.toNat bytes) * 1) 140737488355328)) then (let v0 : Int := (((List.length (List.replicate (Int.toNat bytes) (0 : Int))) : Nat) : Int)
 (Q0S.l0 k k (n, (v0, ((0 : Int), ((List.replicate (Int.toNat bytes) (0 : Int)), ()))))).bind fun t4 => K ((bytesOf t4.1), ())) else (none)
def Q0S (k : Nat) (n : Int) (bytes : Int) : Option (ByteArray × Unit) := Q0S.c k n bytes some
def Q0S.tin : List Ty := [(.int .u64), (.int .i64)]
def Q0S.tout : List Ty := [.str]
def Q0S.sem (k : Nat) : QP := Q15 Q0S.tin Q0S.tout fun x => Q0S k x.1 x.2.1
noncomputable def Q0S.ctx (k : Nat) : Ctx := ⟨Try.prog, gam []⟩
theorem Q0S.gok (k : Nat) : ∀ f, Qw Try.prog f ((Q0S.ctx k).Γ f) := Q0b
theorem Q0S.l0.round (k : Nat) : Q1e (Q0S.ctx k) (Q0K (Func.code Try.f65) [1, 1, 0, 1, 0, 0]) (.nil) Q0S.l0.T [.mask [0, 5, 10, 11], .auto 0] Q0S.l0.os (Q0S.l0.r k) := by
 intro ρ x kn ke; kernel_rfl
theorem Q0S.l0.ok (k : Nat) : StOK 0 Try.prog (.loop (Q0K (Func.code Try.f65) [1, 1, 0, 1, 0, 0])) (Q01 Q0S.l0.T Q0S.l0.os (Q0S.l0 k k)) :=
 Q1i (C := Q0S.ctx k) (Q0S.gok k) Try.mix Q1.nil (by kernel_rfl) (by kernel_rfl) (by kernel_rfl) (Q0S.l0.round k) k
def Q0S.ann (k : Nat) : Ann := .node [] none (.nil) (.node [] none (.nil) (.node [] none (.node [] none (.nil) (.node [] none (.node [.mask [0, 5, 10, 11], .auto 0] (some (Q01 Q0S.l0.T Q0S.l0.os (Q0S.l0 k k))) .nil .nil) (.nil))) (.nil)))
theorem Q0S.body (k : Nat) : Q1n (Q0S.ctx k) Try.f65 (Func.code Try.f65) (Q0S.ann k) Q0S.tin Q0S.tout (fun x K => Q0S.c k x.1 x.2.1 K) := by
 intro ρ x K; kernel_rfl
theorem Q0S.sem_ok (k : Nat) : Qw Try.prog 65 (Q0S.sem k) :=
 Q11 (C := Q0S.ctx k) (Q0S.gok k) Try.mix (c := Func.code Try.f65) (ann := Q0S.ann k) (tin := Q0S.tin) (tout := Q0S.tout) (fun x K => Q0S.c k x.1 x.2.1 K) Try.func65 (by kernel_rfl) (by kernel_rfl) (Q1.seq Q1.nil (Q1.seq Q1.nil (Q1.seq (Q1.seq Q1.nil (Q1.block (Q1.loop (by kernel_rfl) (Q0S.l0.ok k)))) Q1.nil))) (Q0S.body k)
abbrev Qn.τ : Type := (Int × Qe7 × (List Int) × Unit)
def Qn.c (k : Nat) {ρ : Type} (s : ByteArray) (b0 : Qe7) (b1 : (List Int)) (K : Qn.τ → Option ρ) : Option ρ :=
 bif (Nat.ble (((List.length b1) + (List.length (Q0I s))) * 1) 140737488355328) then (K ((((ByteArray.size s) : Nat) : Int), ((((), ((), ())), ()), ((b1 ++ (Q0I s)), ())))) else (none)
def Qn (k : Nat) (s : ByteArray) (b0 : Qe7) (b1 : (List Int)) : Option Qn.τ := Qn.c k s b0 b1 some
def Qn.T : Q13 := ⟨[.ptr 0 [0], .dat .str], [.pair (.pair (.sfp 0 [0] 106) (.pair (.vbs 1) (.dat .unit))) (.dat .unit), .vec (.int .u8)], 1⟩
def Qn.os : List Out := [⟨.ret, [.freeze (.slot 0), .auto 1], ⟨[.dat (.int .i64), .undef], [.pair (.pair (.sfp 0 [0] 106) (.pair (.vbs 1) (.dat .unit))) (.dat .unit), .vec (.int .u8)]⟩⟩]
def Qn.sem (k : Nat) : QP := Q14 Qn.T Qn.os fun x => Qn k x.1 x.2.1 x.2.2.1
noncomputable def Qn.ctx (k : Nat) : Ctx := ⟨Try.prog, gam [(83, (Qcw 106 2))]⟩
theorem Qn.gok (k : Nat) : ∀ f, Qw Try.prog f ((Qn.ctx k).Γ f) := (Qe Bld.copyCheck Q0b)
def Qn.ann (k : Nat) : Ann := .nil
theorem Qn.body (k : Nat) : Q16 (Qn.ctx k) Try.f66 (Func.code Try.f66) (Qn.ann k) Qn.T Qn.os (fun x K => Qn.c k x.1 x.2.1 x.2.2.1 K) := by
 intro ρ x K; kernel_rfl
theorem Qn.sem_ok (k : Nat) : Qw Try.prog 66 (Qn.sem k) :=
 Q0r (C := Qn.ctx k) (Qn.gok k) Try.mix (c := Func.code Try.f66) (ann := Qn.ann k) (T := Qn.T) (os := Qn.os) (fun x K => Qn.c k x.1 x.2.1 x.2.2.1 K) Try.func66 (by kernel_rfl) (by kernel_rfl) Q1.nil (Qn.body k) (by kernel_rfl) (by kernel_rfl) (by kernel_rfl)
abbrev Q02.τ : Type := Qe4 
def Q02.c (k : Nat) {ρ : Type} (s : ByteArray) (b0 : Qe7) (b1 : (List Int)) (K : Q02.τ → Option ρ) : Option ρ :=
 (Qn k s (((), ((), ())), ()) b1).bind fun t0 => K ((((), ((), ())), ()), (t0.2.2.1, ()))
def Q02 (k : Nat) (s : ByteArray) (b0 : Qe7) (b1 : (List Int)) : Option Q02.τ := Q02.c k s b0 b1 some
def Q02.T : Q13 := ⟨[.ptr 0 [], .dat .str], [.pair (.pair (.sfp 0 [0] 106) (.pair (.vbs 1) (.dat .unit))) (.dat .unit), .vec (.int .u8)], 1⟩
def Q02.os : List Out := [⟨.ret, [.auto 1], ⟨[], [.pair (.pair (.sfp 0 [0] 106) (.pair (.vbs 1) (.dat .unit))) (.dat .unit), .vec (.int .u8)]⟩⟩]
def Q02.sem (k : Nat) : QP := Q14 Q02.T Q02.os fun x => Q02 k x.1 x.2.1 x.2.2.1
noncomputable def Q02.ctx (k : Nat) : Ctx := ⟨Try.prog, gam [(66, (Qn.sem k))]⟩
theorem Q02.gok (k : Nat) : ∀ f, Qw Try.prog f ((Q02.ctx k).Γ f) := (Qe (Qn.sem_ok k) Q0b)
def Q02.ann (k : Nat) : Ann := .nil
theorem Q02.body (k : Nat) : Q16 (Q02.ctx k) Try.f37 (Func.code Try.f37) (Q02.ann k) Q02.T Q02.os (fun x K => Q02.c k x.1 x.2.1 x.2.2.1 K) := by
 intro ρ x K; kernel_rfl
theorem Q02.sem_ok (k : Nat) : Qw Try.prog 37 (Q02.sem k) :=
 Q0r (C := Q02.ctx k) (Q02.gok k) Try.mix (c := Func.code Try.f37) (ann := Q02.ann k) (T := Q02.T) (os := Q02.os) (fun x K => Q02.c k x.1 x.2.1 x.2.2.1 K) Try.func37 (by kernel_rfl) (by kernel_rfl) Q1.nil (Q02.body k) (by kernel_rfl) (by kernel_rfl) (by kernel_rfl)
abbrev Q0z.τ : Type := Qe4 
def Q0z.c (k : Nat) {ρ : Type} (n : Int) (b0 : Qe7) (b1 : (List Int)) (K : Q0z.τ → Option ρ) : Option ρ :=
 (Q0S k (IntKind.wrap IntKind.u64 n) (4 : Int)).bind fun t0 => (Q02 k t0.1 (((), ((), ())), ()) b1).bind fun t1 => K ((((), ((), ())), ()), (t1.2.1, ()))
def Q0z (k : Nat) (n : Int) (b0 : Qe7) (b1 : (List Int)) : Option Q0z.τ := Q0z.c k n b0 b1 some
def Q0z.T : Q13 := ⟨[.ptr 0 [], .dat (.int .u32)], [.pair (.pair (.sfp 0 [0] 106) (.pair (.vbs 1) (.dat .unit))) (.dat .unit), .vec (.int .u8)], 1⟩
def Q0z.os : List Out := [⟨.ret, [.auto 1], ⟨[], [.pair (.pair (.sfp 0 [0] 106) (.pair (.vbs 1) (.dat .unit))) (.dat .unit), .vec (.int .u8)]⟩⟩]
def Q0z.sem (k : Nat) : QP := Q14 Q0z.T Q0z.os fun x => Q0z k x.1 x.2.1 x.2.2.1
noncomputable def Q0z.ctx (k : Nat) : Ctx := ⟨Try.prog, gam [(65, (Q0S.sem k)), (37, (Q02.sem k))]⟩
theorem Q0z.gok (k : Nat) : ∀ f, Qw Try.prog f ((Q0z.ctx k).Γ f) := (Qe (Q0S.sem_ok k) (Qe (Q02.sem_ok k) Q0b))
def Q0z.ann (k : Nat) : Ann := .nil
theorem Q0z.body (k : Nat) : Q16 (Q0z.ctx k) Try.f35 (Func.code Try.f35) (Q0z.ann k) Q0z.T Q0z.os (fun x K => Q0z.c k x.1 x.2.1 x.2.2.1 K) := by
 intro ρ x K; kernel_rfl
theorem Q0z.sem_ok (k : Nat) : Qw Try.prog 35 (Q0z.sem k) :=
 Q0r (C := Q0z.ctx k) (Q0z.gok k) Try.mix (c := Func.code Try.f35) (ann := Q0z.ann k) (T := Q0z.T) (os := Q0z.os) (fun x K => Q0z.c k x.1 x.2.1 x.2.2.1 K) Try.func35 (by kernel_rfl) (by kernel_rfl) Q1.nil (Q0z.body k) (by kernel_rfl) (by kernel_rfl) (by kernel_rfl)
abbrev Q0t.τ : Type := Qe4 
def Q0t.c (k : Nat) {ρ : Type} (n : Int) (b0 : Qe7) (b1 : (List Int)) (K : Q0t.τ → Option ρ) : Option ρ :=
 (Q0S k n (8 : Int)).bind fun t0 => (Q02 k t0.1 (((), ((), ())), ()) b1).bind fun t1 => K ((((), ((), ())), ()), (t1.2.1, ()))
def Q0t (k : Nat) (n : Int) (b0 : Qe7) (b1 : (List Int)) : Option Q0t.τ := Q0t.c k n b0 b1 some
def Q0t.T : Q13 := ⟨[.ptr 0 [], .dat (.int .u64)], [.pair (.pair (.sfp 0 [0] 106) (.pair (.vbs 1) (.dat .unit))) (.dat .unit), .vec (.int .u8)], 1⟩
def Q0t.os : List Out := [⟨.ret, [.auto 1], ⟨[], [.pair (.pair (.sfp 0 [0] 106) (.pair (.vbs 1) (.dat .unit))) (.dat .unit), .vec (.int .u8)]⟩⟩]
def Q0t.sem (k : Nat) : QP := Q14 Q0t.T Q0t.os fun x => Q0t k x.1 x.2.1 x.2.2.1
noncomputable def Q0t.ctx (k : Nat) : Ctx := ⟨Try.prog, gam [(65, (Q0S.sem k)), (37, (Q02.sem k))]⟩
theorem Q0t.gok (k : Nat) : ∀ f, Qw Try.prog f ((Q0t.ctx k).Γ f) := (Qe (Q0S.sem_ok k) (Qe (Q02.sem_ok k) Q0b))
def Q0t.ann (k : Nat) : Ann := .nil
theorem Q0t.body (k : Nat) : Q16 (Q0t.ctx k) Try.f36 (Func.code Try.f36) (Q0t.ann k) Q0t.T Q0t.os (fun x K => Q0t.c k x.1 x.2.1 x.2.2.1 K) := by
 intro ρ x K; kernel_rfl
theorem Q0t.sem_ok (k : Nat) : Qw Try.prog 36 (Q0t.sem k) :=
 Q0r (C := Q0t.ctx k) (Q0t.gok k) Try.mix (c := Func.code Try.f36) (ann := Q0t.ann k) (T := Q0t.T) (os := Q0t.os) (fun x K => Q0t.c k x.1 x.2.1 x.2.2.1 K) Try.func36 (by kernel_rfl) (by kernel_rfl) Q1.nil (Q0t.body k) (by kernel_rfl) (by kernel_rfl) (by kernel_rfl)
abbrev Q0l.τ : Type := (ByteArray × Unit)
def Q0l.c (k : Nat) {ρ : Type} (b0 : Qe7) (b1 : (List Int)) (K : Q0l.τ → Option ρ) : Option ρ :=
 bif (Nat.ble (List.length b1) 9223372036854775807) then (K ((bytesOf b1), ())) else (none)
def Q0l (k : Nat) (b0 : Qe7) (b1 : (List Int)) : Option Q0l.τ := Q0l.c k b0 b1 some
def Q0l.T : Q13 := ⟨[.ptr 0 []], [.pair (.pair (.sfp 0 [0] 106) (.pair (.vbs 1) (.dat .unit))) (.dat .unit), .vec (.int .u8)], 1⟩
def Q0l.os : List Out := [⟨.ret, [.freeze (.slot 0), .auto 1], ⟨[.dat .str], [.undef]⟩⟩]
def Q0l.sem (k : Nat) : QP := Q14 Q0l.T Q0l.os fun x => Q0l k x.1 x.2.1
noncomputable def Q0l.ctx (k : Nat) : Ctx := ⟨Try.prog, gam [(67, QaB)]⟩
theorem Q0l.gok (k : Nat) : ∀ f, Qw Try.prog f ((Q0l.ctx k).Γ f) := (Qe Bld.string Q0b)
def Q0l.ann (k : Nat) : Ann := .nil
theorem Q0l.body (k : Nat) : Q16 (Q0l.ctx k) Try.f38 (Func.code Try.f38) (Q0l.ann k) Q0l.T Q0l.os (fun x K => Q0l.c k x.1 x.2.1 K) := by
 intro ρ x K; kernel_rfl
theorem Q0l.sem_ok (k : Nat) : Qw Try.prog 38 (Q0l.sem k) :=
 Q0r (C := Q0l.ctx k) (Q0l.gok k) Try.mix (c := Func.code Try.f38) (ann := Q0l.ann k) (T := Q0l.T) (os := Q0l.os) (fun x K => Q0l.c k x.1 x.2.1 K) Try.func38 (by kernel_rfl) (by kernel_rfl) Q1.nil (Q0l.body k) (by kernel_rfl) (by kernel_rfl) (by kernel_rfl)
def Q0M.c (k : Nat) {ρ : Type} (n : Int) (K : ByteArray × Unit → Option ρ) : Option ρ :=
 (Q0G k ).bind fun t0 => (Q0t k n (((), ((), ())), ()) t0.2.1).bind fun t1 => (Q0l k (((), ((), ())), ()) t1.2.1).bind fun t2 => K (t2.1, ())
def Q0M (k : Nat) (n : Int) : Option (ByteArray × Unit) := Q0M.c k n some
def Q0M.tin : List Ty := [(.int .u64)]
def Q0M.tout : List Ty := [.str]
def Q0M.sem (k : Nat) : QP := Q15 Q0M.tin Q0M.tout fun x => Q0M k x.1
noncomputable def Q0M.ctx (k : Nat) : Ctx := ⟨Try.prog, gam [(34, (Q0G.sem k)), (36, (Q0t.sem k)), (38, (Q0l.sem k))]⟩
theorem Q0M.gok (k : Nat) : ∀ f, Qw Try.prog f ((Q0M.ctx k).Γ f) := (Qe (Q0G.sem_ok k) (Qe (Q0t.sem_ok k) (Qe (Q0l.sem_ok k) Q0b)))
def Q0M.ann (k : Nat) : Ann := .nil
theorem Q0M.body (k : Nat) : Q1n (Q0M.ctx k) Try.f40 (Func.code Try.f40) (Q0M.ann k) Q0M.tin Q0M.tout (fun x K => Q0M.c k x.1 K) := by
 intro ρ x K; kernel_rfl
theorem Q0M.sem_ok (k : Nat) : Qw Try.prog 40 (Q0M.sem k) :=
 Q11 (C := Q0M.ctx k) (Q0M.gok k) Try.mix (c := Func.code Try.f40) (ann := Q0M.ann k) (tin := Q0M.tin) (tout := Q0M.tout) (fun x K => Q0M.c k x.1 K) Try.func40 (by kernel_rfl) (by kernel_rfl) Q1.nil (Q0M.body k)
def Q18.c (k : Nat) {ρ : Type}  (K : (List Int) × Unit → Option ρ) : Option ρ :=
 let v0 : (List Int) := (List.set (List.set (List.set (List.set (List.set (List.set (List.set (List.set (List.replicate 8 (0 : Int)) 0 (1779033703 : Int)) 1 (3144134277 : Int)) 2 (1013904242 : Int)) 3 (2773480762 : Int)) 4 (1359893119 : Int)) 5 (2600822924 : Int)) 6 (528734635 : Int)) 7 (1541459225 : Int))
 K (v0, ())
def Q18 (k : Nat)  : Option Qed := Q18.c k  some
def Q18.tin : List Ty := []
def Q18.tout : List Ty := [Qea]
def Q18.sem (k : Nat) : QP := Q15 Q18.tin Q18.tout fun x => Q18 k 
noncomputable def Q18.ctx (k : Nat) : Ctx := ⟨Try.prog, gam []⟩
theorem Q18.gok (k : Nat) : ∀ f, Qw Try.prog f ((Q18.ctx k).Γ f) := Q0b
def Q18.ann (k : Nat) : Ann := .nil
theorem Q18.body (k : Nat) : Q1n (Q18.ctx k) Try.f98 (Func.code Try.f98) (Q18.ann k) Q18.tin Q18.tout (fun x K => Q18.c k  K) := by
 intro ρ x K; kernel_rfl
theorem Q18.sem_ok (k : Nat) : Qw Try.prog 98 (Q18.sem k) :=
 Q11 (C := Q18.ctx k) (Q18.gok k) Try.mix (c := Func.code Try.f98) (ann := Q18.ann k) (tin := Q18.tin) (tout := Q18.tout) (fun x K => Q18.c k  K) Try.func98 (by kernel_rfl) (by kernel_rfl) Q1.nil (Q18.body k)
abbrev Q1h.τ : Type := (Qe6 × Unit)
def Q1h.c (k : Nat) {ρ : Type}  (K : Q1h.τ → Option ρ) : Option ρ :=
 (Q18 k ).bind fun t0 => K ((t0.1, ((), ((0 : Int), ()))), ())
def Q1h (k : Nat)  : Option Q1h.τ := Q1h.c k  some
def Q1h.T : Q13 := ⟨[], [], 0⟩
def Q1h.os : List Out := [⟨.ret, [.auto 0], ⟨[.ptr 0 []], [.pair (.dat Qea) (.pair (.nils) (.dat Qe8))]⟩⟩]
def Q1h.sem (k : Nat) : QP := Q14 Q1h.T Q1h.os fun x => Q1h k 
noncomputable def Q1h.ctx (k : Nat) : Ctx := ⟨Try.prog, gam [(98, (Q18.sem k))]⟩
theorem Q1h.gok (k : Nat) : ∀ f, Qw Try.prog f ((Q1h.ctx k).Γ f) := (Qe (Q18.sem_ok k) Q0b)
def Q1h.ann (k : Nat) : Ann := .nil
theorem Q1h.body (k : Nat) : Q16 (Q1h.ctx k) Try.f91 (Func.code Try.f91) (Q1h.ann k) Q1h.T Q1h.os (fun x K => Q1h.c k  K) := by
 intro ρ x K; kernel_rfl
theorem Q1h.sem_ok (k : Nat) : Qw Try.prog 91 (Q1h.sem k) :=
 Q0r (C := Q1h.ctx k) (Q1h.gok k) Try.mix (c := Func.code Try.f91) (ann := Q1h.ann k) (T := Q1h.T) (os := Q1h.os) (fun x K => Q1h.c k  K) Try.func91 (by kernel_rfl) (by kernel_rfl) Q1.nil (Q1h.body k) (by kernel_rfl) (by kernel_rfl) (by kernel_rfl)
def QT.c (k : Nat) {ρ : Type} (x_0 : Int) (k_1 : Int) (K : Int × Unit → Option ρ) : Option ρ :=
 let v0 : Int := (Q0Z BinOp.and IntKind.u64 (IntKind.wrap IntKind.u64 k_1) (31 : Int))
 bif (decide ((0 : Int) ≤ v0)) then (let v1 : Int := (IntKind.wrap IntKind.u64 ((32 : Int) - v0))
 bif (decide ((0 : Int) ≤ v1)) then (let v2 : Int := (Q0Z BinOp.or IntKind.u32 (Q2T IntKind.u32 x_0 v0) (Q1V IntKind.u32 x_0 v1))
 K (v2, ())) else (none)) else (none)
def QT (k : Nat) (x_0 : Int) (k_1 : Int) : Option (Int × Unit) := QT.c k x_0 k_1 some
def QT.tin : List Ty := [(.int .u32), (.int .i64)]
def QT.tout : List Ty := [(.int .u32)]
def QT.sem (k : Nat) : QP := Q15 QT.tin QT.tout fun x => QT k x.1 x.2.1
noncomputable def QT.ctx (k : Nat) : Ctx := ⟨Try.prog, gam []⟩
theorem QT.gok (k : Nat) : ∀ f, Qw Try.prog f ((QT.ctx k).Γ f) := Q0b
def QT.ann (k : Nat) : Ann := .nil
theorem QT.body (k : Nat) : Q1n (QT.ctx k) Try.f107 (Func.code Try.f107) (QT.ann k) QT.tin QT.tout (fun x K => QT.c k x.1 x.2.1 K) := by
 intro ρ x K; kernel_rfl
theorem QT.sem_ok (k : Nat) : Qw Try.prog 107 (QT.sem k) :=
 Q11 (C := QT.ctx k) (QT.gok k) Try.mix (c := Func.code Try.f107) (ann := QT.ann k) (tin := QT.tin) (tout := QT.tout) (fun x K => QT.c k x.1 x.2.1 K) Try.func107 (by kernel_rfl) (by kernel_rfl) Q1.nil (QT.body k)
def Q0U.c (k : Nat) {ρ : Type} (x_0 : Int) (n : Int) (K : Int × Unit → Option ρ) : Option ρ :=
 let v0 : Int := (IntKind.wrap IntKind.i64 ((0 : Int) - n))
 (QT k x_0 v0).bind fun t1 => K (t1.1, ())
def Q0U (k : Nat) (x_0 : Int) (n : Int) : Option (Int × Unit) := Q0U.c k x_0 n some
def Q0U.tin : List Ty := [(.int .u32), (.int .i64)]
def Q0U.tout : List Ty := [(.int .u32)]
def Q0U.sem (k : Nat) : QP := Q15 Q0U.tin Q0U.tout fun x => Q0U k x.1 x.2.1
noncomputable def Q0U.ctx (k : Nat) : Ctx := ⟨Try.prog, gam [(107, (QT.sem k))]⟩
theorem Q0U.gok (k : Nat) : ∀ f, Qw Try.prog f ((Q0U.ctx k).Γ f) := (Qe (QT.sem_ok k) Q0b)
def Q0U.ann (k : Nat) : Ann := .nil
theorem Q0U.body (k : Nat) : Q1n (Q0U.ctx k) Try.f106 (Func.code Try.f106) (Q0U.ann k) Q0U.tin Q0U.tout (fun x K => Q0U.c k x.1 x.2.1 K) := by
 intro ρ x K; kernel_rfl
theorem Q0U.sem_ok (k : Nat) : Qw Try.prog 106 (Q0U.sem k) :=
 Q11 (C := Q0U.ctx k) (Q0U.gok k) Try.mix (c := Func.code Try.f106) (ann := Q0U.ann k) (tin := Q0U.tin) (tout := Q0U.tout) (fun x K => Q0U.c k x.1 x.2.1 K) Try.func106 (by kernel_rfl) (by kernel_rfl) Q1.nil (Q0U.body k)
abbrev Qj.l1.σ : Type := Int × Int × (Nat × Nat) × Int × Int × (List Int) × (List Int) × (List Int) × Unit
abbrev Qj.l1.τ : Type := (Int × (List Int) × (List Int) × (List Int) × Unit)
def Qj.l1.r (k : Nat) {ρ : Type} (x : Qj.l1.σ) (kn : Qj.l1.σ → Option ρ) (ke : Qj.l1.τ → Option ρ) : Option ρ :=
 bif (decide (x.2.2.2.2.1 < x.2.2.2.1)) then (bif (decide (((0 : Int) ≤ x.2.2.2.2.1) ∧ (x.2.2.2.2.1 < ((x.2.2.1.2 : Nat) : Int)))) then (let v4 : Int := (List.getD x.2.2.2.2.2.1 (x.2.2.1.1 + (Int.toNat x.2.2.2.2.1)) (0 : Int))
 bif (decide (((0 : Int) ≤ x.1) ∧ (x.1 < ((64 : Nat) : Int)))) then (let v5 : Int := (List.getD x.2.2.2.2.2.2.2.1 (Int.toNat x.1) (0 : Int))
 let v6 : Int := (Q2T IntKind.u32 v5 (8 : Int))
 bif (decide (((0 : Int) ≤ x.1) ∧ (x.1 < ((64 : Nat) : Int)))) then (let v7 : Int := (IntKind.wrap IntKind.i64 (x.2.2.2.2.1 + (1 : Int)))
 kn (x.1, (x.2.1, ((x.2.2.1.1, x.2.2.1.2), (x.2.2.2.1, (v7, (x.2.2.2.2.2.1, (x.2.2.2.2.2.2.1, ((List.set x.2.2.2.2.2.2.2.1 (Int.toNat x.1) (Q0Z BinOp.or IntKind.u32 v6 (IntKind.wrap IntKind.u32 v4))), ()))))))))) else (none)) else (none)) else (none)) else (ke (x.2.1, (x.2.2.2.2.2.1, (x.2.2.2.2.2.2.1, (x.2.2.2.2.2.2.2.1, ())))))
def Qj.l1 (k : Nat) : Nat → Qj.l1.σ → Option Qj.l1.τ := Q1j (Qj.l1.r k)
def Qj.l1.T : StT := ⟨.ptr 0 [] :: us 1 ++ .ptr 1 [] :: .ptr 2 [] :: .dat (.int .i64) :: us 7 ++ .dat (.int .i64) :: us 9 ++ .slr 0 [] :: .dat (.int .i64) :: .dat (.int .i64) :: us 58, [.dat Qeb, .dat Qe9, .dat Qe9]⟩
def Qj.l1.os : List Out := [⟨(.exit 2), [.mask [0, 2, 3, 12], .auto 1], ⟨.ptr 0 [] :: us 1 ++ .ptr 1 [] :: .ptr 2 [] :: us 8 ++ .dat (.int .i64) :: us 70, [.dat Qeb, .dat Qe9, .dat Qe9]⟩⟩]
abbrev Qj.l0.σ : Type := Int × (List Int) × (List Int) × (List Int) × Unit
abbrev Qj.l0.τ : Type := Qe5 
def Qj.l0.r (k : Nat) {ρ : Type} (x : Qj.l0.σ) (kn : Qj.l0.σ → Option ρ) (ke : Qj.l0.τ → Option ρ) : Option ρ :=
 bif (decide (x.1 < (16 : Int))) then (let v0 : Int := (IntKind.wrap IntKind.i64 ((4 : Int) * x.1))
 let v1 : Int := (IntKind.wrap IntKind.i64 (x.1 + (1 : Int)))
 let v2 : Int := (IntKind.wrap IntKind.i64 ((4 : Int) * v1))
 bif (decide (((0 : Int) ≤ v0) ∧ ((v0 ≤ v2) ∧ (v2 ≤ ((64 : Nat) : Int))))) then (let v3 : Int := (((Int.toNat (v2 - v0)) : Nat) : Int)
 (Qj.l1 k k (x.1, (x.1, (((Int.toNat v0), (Int.toNat (v2 - v0))), (v3, ((0 : Int), (x.2.1, (x.2.2.1, (x.2.2.2.1, ()))))))))).bind fun t8 => let v9 : Int := (IntKind.wrap IntKind.i64 (t8.1 + (1 : Int)))
 kn (v9, (t8.2.1, (t8.2.2.1, (t8.2.2.2.1, ()))))) else (none)) else (ke (x.2.1, (x.2.2.1, (x.2.2.2.1, ()))))
def Qj.l0 (k : Nat) : Nat → Qj.l0.σ → Option Qj.l0.τ := Q1j (Qj.l0.r k)
def Qj.l0.T : StT := ⟨.ptr 0 [] :: us 1 ++ .ptr 1 [] :: .ptr 2 [] :: us 8 ++ .dat (.int .i64) :: us 70, [.dat Qeb, .dat Qe9, .dat Qe9]⟩
def Qj.l0.os : List Out := [⟨(.exit 0), [.mask [2, 3], .auto 1], ⟨us 2 ++ .ptr 1 [] :: .ptr 2 [] :: us 79, [.dat Qeb, .dat Qe9, .dat Qe9]⟩⟩]
abbrev Qj.l2.σ : Type := Int × (List Int) × (List Int) × (List Int) × Unit
abbrev Qj.l2.τ : Type := Qe5 
def Qj.l2.r (k : Nat) {ρ : Type} (x : Qj.l2.σ) (kn : Qj.l2.σ → Option ρ) (ke : Qj.l2.τ → Option ρ) : Option ρ :=
 bif (decide (x.1 < (64 : Int))) then (let v11 : Int := (IntKind.wrap IntKind.i64 (x.1 - (2 : Int)))
 bif (decide (((0 : Int) ≤ v11) ∧ (v11 < ((64 : Nat) : Int)))) then (let v12 : Int := (List.getD x.2.2.2.1 (Int.toNat v11) (0 : Int))
 let v13 : Int := (IntKind.wrap IntKind.i64 (x.1 - (15 : Int)))
 bif (decide (((0 : Int) ≤ v13) ∧ (v13 < ((64 : Nat) : Int)))) then (let v14 : Int := (List.getD x.2.2.2.1 (Int.toNat v13) (0 : Int))
 (Q0U k v12 (17 : Int)).bind fun t15 => (Q0U k v12 (19 : Int)).bind fun t16 => let v17 : Int := (Q0Z BinOp.xor IntKind.u32 t15.1 t16.1)
 let v18 : Int := (Q1V IntKind.u32 v12 (10 : Int))
 (Q0U k v14 (7 : Int)).bind fun t19 => (Q0U k v14 (18 : Int)).bind fun t20 => let v21 : Int := (Q0Z BinOp.xor IntKind.u32 t19.1 t20.1)
 let v22 : Int := (Q1V IntKind.u32 v14 (3 : Int))
 let v23 : Int := (IntKind.wrap IntKind.i64 (x.1 - (7 : Int)))
 bif (decide (((0 : Int) ≤ v23) ∧ (v23 < ((64 : Nat) : Int)))) then (let v24 : Int := (List.getD x.2.2.2.1 (Int.toNat v23) (0 : Int))
 let v25 : Int := (IntKind.wrap IntKind.u32 ((Q0Z BinOp.xor IntKind.u32 v17 v18) + v24))
 let v26 : Int := (IntKind.wrap IntKind.u32 (v25 + (Q0Z BinOp.xor IntKind.u32 v21 v22)))
 let v27 : Int := (IntKind.wrap IntKind.i64 (x.1 - (16 : Int)))
 bif (decide (((0 : Int) ≤ v27) ∧ (v27 < ((64 : Nat) : Int)))) then (let v28 : Int := (List.getD x.2.2.2.1 (Int.toNat v27) (0 : Int))
 let v29 : Int := (IntKind.wrap IntKind.u32 (v26 + v28))
 bif (decide (((0 : Int) ≤ x.1) ∧ (x.1 < ((64 : Nat) : Int)))) then (let v30 : Int := (IntKind.wrap IntKind.i64 (x.1 + (1 : Int)))
 kn (v30, (x.2.1, (x.2.2.1, ((List.set x.2.2.2.1 (Int.toNat x.1) v29), ()))))) else (none)) else (none)) else (none)) else (none)) else (none)) else (ke (x.2.1, (x.2.2.1, (x.2.2.2.1, ()))))
def Qj.l2 (k : Nat) : Nat → Qj.l2.σ → Option Qj.l2.τ := Q1j (Qj.l2.r k)
def Qj.l2.T : StT := ⟨us 2 ++ .ptr 1 [] :: .ptr 2 [] :: us 3 ++ .dat (.int .i64) :: us 75, [.dat Qeb, .dat Qe9, .dat Qe9]⟩
def Qj.l2.os : List Out := [⟨(.exit 4), [.mask [2, 3], .auto 1], ⟨us 2 ++ .ptr 1 [] :: .ptr 2 [] :: us 79, [.dat Qeb, .dat Qe9, .dat Qe9]⟩⟩]
abbrev Qj.τ : Type := ((List Int) × (List Int) × Unit)
def Qj.c (k : Nat) {ρ : Type} (b0 : (List Int)) (K : Qj.τ → Option ρ) : Option ρ :=
 (Qj.l0 k k ((0 : Int), (b0, ((List.replicate 64 (0 : Int)), ((List.replicate 64 (0 : Int)), ()))))).bind fun t10 => (Qj.l2 k k ((16 : Int), (t10.1, (t10.2.1, (t10.2.2.1, ()))))).bind fun t31 => let v32 : (List Int) := t31.2.2.1
 K (v32, (t31.1, ()))
def Qj (k : Nat) (b0 : (List Int)) : Option Qj.τ := Qj.c k b0 some
def Qj.T : Q13 := ⟨[.ptr 0 []], [.dat Qeb], 1⟩
def Qj.os : List Out := [⟨.ret, [.freeze (.slot 0), .auto 1], ⟨[.dat Qe9], [.dat Qeb]⟩⟩]
def Qj.sem (k : Nat) : QP := Q14 Qj.T Qj.os fun x => Qj k x.1
noncomputable def Qj.ctx (k : Nat) : Ctx := ⟨Try.prog, gam [(106, (Q0U.sem k))]⟩
theorem Qj.gok (k : Nat) : ∀ f, Qw Try.prog f ((Qj.ctx k).Γ f) := (Qe (Q0U.sem_ok k) Q0b)
theorem Qj.l1.round (k : Nat) : Q1e (Qj.ctx k) (Q0K (Func.code Try.f104) [1, 1, 0, 1, 0, 0, 1, 1, 0, 0, 1, 1, 0, 0]) (.nil) Qj.l1.T [.mask [0, 2, 3, 4, 12, 22, 23, 24], .auto 1] Qj.l1.os (Qj.l1.r k) := by
 intro ρ x kn ke; kernel_rfl
theorem Qj.l1.ok (k : Nat) : StOK 1 Try.prog (.loop (Q0K (Func.code Try.f104) [1, 1, 0, 1, 0, 0, 1, 1, 0, 0, 1, 1, 0, 0])) (Q01 Qj.l1.T Qj.l1.os (Qj.l1 k k)) :=
 Q1i (C := Qj.ctx k) (Qj.gok k) Try.mix Q1.nil (by kernel_rfl) (by kernel_rfl) (by kernel_rfl) (Qj.l1.round k) k
theorem Qj.l0.round (k : Nat) : Q1e (Qj.ctx k) (Q0K (Func.code Try.f104) [1, 1, 0, 1, 0, 0]) (.node [] none (.nil) (.node [] none (.nil) (.node [] none (.node [] none (.node [] none (.nil) (.node [] none (.nil) (.node [] none (.node [.mask [0, 2, 3, 4, 12, 22, 23, 24], .auto 1] (some (Q01 Qj.l1.T Qj.l1.os (Qj.l1 k k))) .nil .nil) (.nil)))) (.nil)) (.nil)))) Qj.l0.T [.mask [0, 2, 3, 12], .auto 1] Qj.l0.os (Qj.l0.r k) := by
 intro ρ x kn ke; kernel_rfl
theorem Qj.l0.ok (k : Nat) : StOK 1 Try.prog (.loop (Q0K (Func.code Try.f104) [1, 1, 0, 1, 0, 0])) (Q01 Qj.l0.T Qj.l0.os (Qj.l0 k k)) :=
 Q1i (C := Qj.ctx k) (Qj.gok k) Try.mix (Q1.seq Q1.nil (Q1.seq Q1.nil (Q1.seq (Q1.block (Q1.seq Q1.nil (Q1.seq Q1.nil (Q1.block (Q1.loop (by kernel_rfl) (Qj.l1.ok k)))))) Q1.nil))) (by kernel_rfl) (by kernel_rfl) (by kernel_rfl) (Qj.l0.round k) k
theorem Qj.l2.round (k : Nat) : Q1e (Qj.ctx k) (Q0K (Func.code Try.f104) [1, 1, 1, 0, 1, 0, 0]) (.nil) Qj.l2.T [.mask [2, 3, 7], .auto 1] Qj.l2.os (Qj.l2.r k) := by
 intro ρ x kn ke; kernel_rfl
theorem Qj.l2.ok (k : Nat) : StOK 1 Try.prog (.loop (Q0K (Func.code Try.f104) [1, 1, 1, 0, 1, 0, 0])) (Q01 Qj.l2.T Qj.l2.os (Qj.l2 k k)) :=
 Q1i (C := Qj.ctx k) (Qj.gok k) Try.mix Q1.nil (by kernel_rfl) (by kernel_rfl) (by kernel_rfl) (Qj.l2.round k) k
def Qj.ann (k : Nat) : Ann := .node [] none (.nil) (.node [] none (.nil) (.node [] none (.node [] none (.nil) (.node [] none (.node [.mask [0, 2, 3, 12], .auto 1] (some (Q01 Qj.l0.T Qj.l0.os (Qj.l0 k k))) .nil .nil) (.nil))) (.node [] none (.node [] none (.nil) (.node [] none (.node [.mask [2, 3, 7], .auto 1] (some (Q01 Qj.l2.T Qj.l2.os (Qj.l2 k k))) .nil .nil) (.nil))) (.nil))))
theorem Qj.body (k : Nat) : Q16 (Qj.ctx k) Try.f104 (Func.code Try.f104) (Qj.ann k) Qj.T Qj.os (fun x K => Qj.c k x.1 K) := by
 intro ρ x K; kernel_rfl
theorem Qj.sem_ok (k : Nat) : Qw Try.prog 104 (Qj.sem k) :=
 Q0r (C := Qj.ctx k) (Qj.gok k) Try.mix (c := Func.code Try.f104) (ann := Qj.ann k) (T := Qj.T) (os := Qj.os) (fun x K => Qj.c k x.1 K) Try.func104 (by kernel_rfl) (by kernel_rfl) (Q1.seq Q1.nil (Q1.seq Q1.nil (Q1.seq (Q1.seq Q1.nil (Q1.block (Q1.loop (by kernel_rfl) (Qj.l0.ok k)))) (Q1.seq (Q1.seq Q1.nil (Q1.block (Q1.loop (by kernel_rfl) (Qj.l2.ok k)))) Q1.nil)))) (Qj.body k) (by kernel_rfl) (by kernel_rfl) (by kernel_rfl)
abbrev Q0O.τ : Type := Qed 
def Q0O.c (k : Nat) {ρ : Type}  (K : Q0O.τ → Option ρ) : Option ρ :=
 let v0 : (List Int) := (List.set (List.set (List.set (List.set (List.set (List.set (List.set (List.set (List.set (List.set (List.set (List.set (List.set (List.set (List.set (List.set (List.set (List.set (List.set (List.set (List.set (List.set (List.set (List.set (List.set (List.set (List.set (List.set (List.set (List.set (List.set (List.set (List.set (List.set (List.set (List.set (List.set (List.set (List.set (List.set (List.set (List.set (List.set (List.set (List.set (List.set (List.set (List.set (List.set (List.set (List.set (List.set (List.set (List.set (List.set (List.set (List.set (List.set (List.set (List.set (List.set (List.set (List.set (List.set (List.replicate 64 (0 : Int)) 0 (1116352408 : Int)) 1 (1899447441 : Int)) 2 (3049323471 : Int)) 3 (3921009573 : Int)) 4 (961987163 : Int)) 5 (1508970993 : Int)) 6 (2453635748 : Int)) 7 (2870763221 : Int)) 8 (3624381080 : Int)) 9 (310598401 : Int)) 10 (607225278 : Int)) 11 (1426881987 : Int)) 12 (1925078388 : Int)) 13 (2162078206 : Int)) 14 (2614888103 : Int)) 15 (3248222580 : Int)) 16 (3835390401 : Int)) 17 (4022224774 : Int)) 18 (264347078 : Int)) 19 (604807628 : Int)) 20 (770255983 : Int)) 21 (1249150122 : Int)) 22 (1555081692 : Int)) 23 (1996064986 : Int)) 24 (2554220882 : Int)) 25 (2821834349 : Int)) 26 (2952996808 : Int)) 27 (3210313671 : Int)) 28 (3336571891 : Int)) 29 (3584528711 : Int)) 30 (113926993 : Int)) 31 (338241895 : Int)) 32 (666307205 : Int)) 33 (773529912 : Int)) 34 (1294757372 : Int)) 35 (1396182291 : Int)) 36 (1695183700 : Int)) 37 (1986661051 : Int)) 38 (2177026350 : Int)) 39 (2456956037 : Int)) 40 (2730485921 : Int)) 41 (2820302411 : Int)) 42 (3259730800 : Int)) 43 (3345764771 : Int)) 44 (3516065817 : Int)) 45 (3600352804 : Int)) 46 (4094571909 : Int)) 47 (275423344 : Int)) 48 (430227734 : Int)) 49 (506948616 : Int)) 50 (659060556 : Int)) 51 (883997877 : Int)) 52 (958139571 : Int)) 53 (1322822218 : Int)) 54 (1537002063 : Int)) 55 (1747873779 : Int)) 56 (1955562222 : Int)) 57 (2024104815 : Int)) 58 (2227730452 : Int)) 59 (2361852424 : Int)) 60 (2428436474 : Int)) 61 (2756734187 : Int)) 62 (3204031479 : Int)) 63 (3329325298 : Int))
 K (v0, ())
def Q0O (k : Nat)  : Option Q0O.τ := Q0O.c k  some
def Q0O.T : Q13 := ⟨[], [], 0⟩
def Q0O.os : List Out := [⟨.ret, [.auto 0], ⟨[.ptr 0 []], [.dat Qe9]⟩⟩]
def Q0O.sem (k : Nat) : QP := Q14 Q0O.T Q0O.os fun x => Q0O k 
noncomputable def Q0O.ctx (k : Nat) : Ctx := ⟨Try.prog, gam []⟩
theorem Q0O.gok (k : Nat) : ∀ f, Qw Try.prog f ((Q0O.ctx k).Γ f) := Q0b
def Q0O.ann (k : Nat) : Ann := .nil
theorem Q0O.body (k : Nat) : Q16 (Q0O.ctx k) Try.f105 (Func.code Try.f105) (Q0O.ann k) Q0O.T Q0O.os (fun x K => Q0O.c k  K) := by
 intro ρ x K; kernel_rfl
theorem Q0O.sem_ok (k : Nat) : Qw Try.prog 105 (Q0O.sem k) :=
 Q0r (C := Q0O.ctx k) (Q0O.gok k) Try.mix (c := Func.code Try.f105) (ann := Q0O.ann k) (T := Q0O.T) (os := Q0O.os) (fun x K => Q0O.c k  K) Try.func105 (by kernel_rfl) (by kernel_rfl) Q1.nil (Q0O.body k) (by kernel_rfl) (by kernel_rfl) (by kernel_rfl)
abbrev Q00.l0.σ : Type := Int × (List Int) × (List Int) × (List Int) × (List Int) × (List Int) × Unit
abbrev Q00.l0.τ : Type := Qe5 
def Q00.l0.r (k : Nat) {ρ : Type} (x : Q00.l0.σ) (kn : Q00.l0.σ → Option ρ) (ke : Q00.l0.τ → Option ρ) : Option ρ :=
 bif (decide (x.1 < (64 : Int))) then (let v2 : Int := (List.getD x.2.2.2.2.2.1 0 (0 : Int))
 let v3 : Int := (List.getD x.2.2.2.2.2.1 4 (0 : Int))
 (Q0U k v3 (6 : Int)).bind fun t4 => (Q0U k v3 (11 : Int)).bind fun t5 => let v6 : Int := (Q0Z BinOp.xor IntKind.u32 t4.1 t5.1)
 (Q0U k v3 (25 : Int)).bind fun t7 => let v8 : Int := (Q0Z BinOp.xor IntKind.u32 v6 t7.1)
 (Q0U k v2 (2 : Int)).bind fun t9 => (Q0U k v2 (13 : Int)).bind fun t10 => let v11 : Int := (Q0Z BinOp.xor IntKind.u32 t9.1 t10.1)
 (Q0U k v2 (22 : Int)).bind fun t12 => let v13 : Int := (Q0Z BinOp.xor IntKind.u32 v11 t12.1)
 let v14 : Int := (List.getD x.2.2.2.2.2.1 5 (0 : Int))
 let v15 : Int := (List.getD x.2.2.2.2.2.1 6 (0 : Int))
 let v16 : Int := (Q0Z BinOp.xor IntKind.u32 (Q0Z BinOp.and IntKind.u32 v3 v14) (Q0Z BinOp.and IntKind.u32 (notI IntKind.u32 v3) v15))
 let v17 : Int := (List.getD x.2.2.2.2.2.1 1 (0 : Int))
 let v18 : Int := (List.getD x.2.2.2.2.2.1 2 (0 : Int))
 let v19 : Int := (Q0Z BinOp.xor IntKind.u32 (Q0Z BinOp.and IntKind.u32 v2 v17) (Q0Z BinOp.and IntKind.u32 v2 v18))
 let v20 : Int := (List.getD x.2.2.2.2.2.1 1 (0 : Int))
 let v21 : Int := (List.getD x.2.2.2.2.2.1 2 (0 : Int))
 let v22 : Int := (Q0Z BinOp.xor IntKind.u32 v19 (Q0Z BinOp.and IntKind.u32 v20 v21))
 let v23 : Int := (List.getD x.2.2.2.2.2.1 7 (0 : Int))
 let v24 : Int := (IntKind.wrap IntKind.u32 (v23 + v8))
 let v25 : Int := (IntKind.wrap IntKind.u32 (v24 + v16))
 bif (decide (((0 : Int) ≤ x.1) ∧ (x.1 < ((64 : Nat) : Int)))) then (let v26 : Int := (List.getD x.2.2.2.2.1 (Int.toNat x.1) (0 : Int))
 let v27 : Int := (IntKind.wrap IntKind.u32 (v25 + v26))
 bif (decide (((0 : Int) ≤ x.1) ∧ (x.1 < ((64 : Nat) : Int)))) then (let v28 : Int := (List.getD x.2.2.2.1 (Int.toNat x.1) (0 : Int))
 let v29 : Int := (IntKind.wrap IntKind.u32 (v27 + v28))
 let v30 : Int := (IntKind.wrap IntKind.u32 (v29 + v13))
 let v31 : Int := (IntKind.wrap IntKind.u32 (v30 + v22))
 let v32 : Int := (List.getD x.2.2.2.2.2.1 0 (0 : Int))
 let v33 : Int := (List.getD x.2.2.2.2.2.1 1 (0 : Int))
 let v34 : Int := (List.getD x.2.2.2.2.2.1 2 (0 : Int))
 let v35 : Int := (List.getD x.2.2.2.2.2.1 3 (0 : Int))
 let v36 : Int := (IntKind.wrap IntKind.u32 (v35 + v29))
 let v37 : Int := (List.getD x.2.2.2.2.2.1 4 (0 : Int))
 let v38 : Int := (List.getD x.2.2.2.2.2.1 5 (0 : Int))
 let v39 : Int := (List.getD x.2.2.2.2.2.1 6 (0 : Int))
 let v40 : (List Int) := (List.set (List.set (List.set (List.set (List.set (List.set (List.set (List.set (List.replicate 8 (0 : Int)) 0 v31) 1 v32) 2 v33) 3 v34) 4 v36) 5 v37) 6 v38) 7 v39)
 let v41 : Int := (IntKind.wrap IntKind.i64 (x.1 + (1 : Int)))
 kn (v41, (x.2.1, (x.2.2.1, (x.2.2.2.1, (x.2.2.2.2.1, (v40, ()))))))) else (none)) else (none)) else (ke (x.2.1, (x.2.2.1, (x.2.2.2.2.2.1, ()))))
def Q00.l0 (k : Nat) : Nat → Q00.l0.σ → Option Q00.l0.τ := Q1j (Q00.l0.r k)
def Q00.l0.T : StT := ⟨us 2 ++ .ptr 0 [] :: us 1 ++ .ptr 1 [] :: .ptr 2 [] :: .ptr 3 [] :: .ptr 4 [] :: us 12 ++ .dat (.int .i64) :: us 99, [.dat Qea, .dat Qea, .dat Qe9, .dat Qe9, .dat Qea]⟩
def Q00.l0.os : List Out := [⟨(.exit 0), [.mask [2, 4, 7], .auto 0], ⟨us 2 ++ .ptr 0 [] :: us 1 ++ .ptr 1 [] :: us 2 ++ .ptr 2 [] :: us 112, [.dat Qea, .dat Qea, .dat Qea]⟩⟩]
abbrev Q00.l1.σ : Type := Int × (List Int) × (List Int) × (List Int) × Unit
abbrev Q00.l1.τ : Type := ((List Int) × (List Int) × Unit)
def Q00.l1.r (k : Nat) {ρ : Type} (x : Q00.l1.σ) (kn : Q00.l1.σ → Option ρ) (ke : Q00.l1.τ → Option ρ) : Option ρ :=
 bif (decide (x.1 < (8 : Int))) then (bif (decide (((0 : Int) ≤ x.1) ∧ (x.1 < ((8 : Nat) : Int)))) then (let v43 : Int := (List.getD x.2.2.2.1 (Int.toNat x.1) (0 : Int))
 bif (decide (((0 : Int) ≤ x.1) ∧ (x.1 < ((8 : Nat) : Int)))) then (let v44 : Int := (List.getD x.2.1 (Int.toNat x.1) (0 : Int))
 let v45 : Int := (IntKind.wrap IntKind.u32 (v43 + v44))
 bif (decide (((0 : Int) ≤ x.1) ∧ (x.1 < ((8 : Nat) : Int)))) then (let v46 : Int := (IntKind.wrap IntKind.i64 (x.1 + (1 : Int)))
 kn (v46, (x.2.1, (x.2.2.1, ((List.set x.2.2.2.1 (Int.toNat x.1) v45), ()))))) else (none)) else (none)) else (none)) else (ke (x.2.2.1, (x.2.2.2.1, ())))
def Q00.l1 (k : Nat) : Nat → Q00.l1.σ → Option Q00.l1.τ := Q1j (Q00.l1.r k)
def Q00.l1.T : StT := ⟨us 2 ++ .ptr 0 [] :: us 1 ++ .ptr 1 [] :: us 2 ++ .ptr 2 [] :: us 99 ++ .dat (.int .i64) :: us 12, [.dat Qea, .dat Qea, .dat Qea]⟩
def Q00.l1.os : List Out := [⟨(.exit 2), [.mask [4, 7], .auto 0], ⟨us 4 ++ .ptr 0 [] :: us 2 ++ .ptr 1 [] :: us 112, [.dat Qea, .dat Qea]⟩⟩]
def Q00.c (k : Nat) {ρ : Type} (x_0 : (List Int)) (block : (List Int)) (K : (List Int) × Unit → Option ρ) : Option ρ :=
 (Qj k block).bind fun t0 => (Q0O k ).bind fun t1 => (Q00.l0 k k ((0 : Int), (x_0, ((List.replicate 8 (0 : Int)), (t0.1, (t1.1, (x_0, ()))))))).bind fun t42 => (Q00.l1 k k ((0 : Int), (t42.1, (t42.2.1, (t42.2.2.1, ()))))).bind fun t47 => let v48 : (List Int) := t47.2.1
 K (v48, ())
def Q00 (k : Nat) (x_0 : (List Int)) (block : (List Int)) : Option Qed := Q00.c k x_0 block some
def Q00.tin : List Ty := [Qea, Qeb]
def Q00.tout : List Ty := [Qea]
def Q00.sem (k : Nat) : QP := Q15 Q00.tin Q00.tout fun x => Q00 k x.1 x.2.1
noncomputable def Q00.ctx (k : Nat) : Ctx := ⟨Try.prog, gam [(104, (Qj.sem k)), (105, (Q0O.sem k)), (106, (Q0U.sem k))]⟩
theorem Q00.gok (k : Nat) : ∀ f, Qw Try.prog f ((Q00.ctx k).Γ f) := (Qe (Qj.sem_ok k) (Qe (Q0O.sem_ok k) (Qe (Q0U.sem_ok k) Q0b)))
theorem Q00.l0.round (k : Nat) : Q1e (Q00.ctx k) (Q0K (Func.code Try.f99) [1, 1, 1, 0, 1, 0, 0]) (.nil) Q00.l0.T [.mask [2, 4, 5, 6, 7, 20], .auto 0] Q00.l0.os (Q00.l0.r k) := by
 intro ρ x kn ke; kernel_rfl
theorem Q00.l0.ok (k : Nat) : StOK 0 Try.prog (.loop (Q0K (Func.code Try.f99) [1, 1, 1, 0, 1, 0, 0])) (Q01 Q00.l0.T Q00.l0.os (Q00.l0 k k)) :=
 Q1i (C := Q00.ctx k) (Q00.gok k) Try.mix Q1.nil (by kernel_rfl) (by kernel_rfl) (by kernel_rfl) (Q00.l0.round k) k
theorem Q00.l1.round (k : Nat) : Q1e (Q00.ctx k) (Q0K (Func.code Try.f99) [1, 1, 1, 1, 0, 1, 0, 0]) (.nil) Q00.l1.T [.mask [2, 4, 7, 107], .auto 0] Q00.l1.os (Q00.l1.r k) := by
 intro ρ x kn ke; kernel_rfl
theorem Q00.l1.ok (k : Nat) : StOK 0 Try.prog (.loop (Q0K (Func.code Try.f99) [1, 1, 1, 1, 0, 1, 0, 0])) (Q01 Q00.l1.T Q00.l1.os (Q00.l1 k k)) :=
 Q1i (C := Q00.ctx k) (Q00.gok k) Try.mix Q1.nil (by kernel_rfl) (by kernel_rfl) (by kernel_rfl) (Q00.l1.round k) k
def Q00.ann (k : Nat) : Ann := .node [] none (.nil) (.node [] none (.nil) (.node [] none (.nil) (.node [] none (.node [] none (.nil) (.node [] none (.node [.mask [2, 4, 5, 6, 7, 20], .auto 0] (some (Q01 Q00.l0.T Q00.l0.os (Q00.l0 k k))) .nil .nil) (.nil))) (.node [] none (.node [] none (.nil) (.node [] none (.node [.mask [2, 4, 7, 107], .auto 0] (some (Q01 Q00.l1.T Q00.l1.os (Q00.l1 k k))) .nil .nil) (.nil))) (.nil)))))
theorem Q00.body (k : Nat) : Q1n (Q00.ctx k) Try.f99 (Func.code Try.f99) (Q00.ann k) Q00.tin Q00.tout (fun x K => Q00.c k x.1 x.2.1 K) := by
 intro ρ x K; kernel_rfl
theorem Q00.sem_ok (k : Nat) : Qw Try.prog 99 (Q00.sem k) :=
 Q11 (C := Q00.ctx k) (Q00.gok k) Try.mix (c := Func.code Try.f99) (ann := Q00.ann k) (tin := Q00.tin) (tout := Q00.tout) (fun x K => Q00.c k x.1 x.2.1 K) Try.func99 (by kernel_rfl) (by kernel_rfl) (Q1.seq Q1.nil (Q1.seq Q1.nil (Q1.seq Q1.nil (Q1.seq (Q1.seq Q1.nil (Q1.block (Q1.loop (by kernel_rfl) (Q00.l0.ok k)))) (Q1.seq (Q1.seq Q1.nil (Q1.block (Q1.loop (by kernel_rfl) (Q00.l1.ok k)))) Q1.nil))))) (Q00.body k)
abbrev Qg.l0.σ : Type := Qe6 × (List Int) × Unit
abbrev Qg.l0.τ : Type := Qe3 
def Qg.l0.r (k : Nat) {ρ : Type} (x : Qg.l0.σ) (kn : Qg.l0.σ → Option ρ) (ke : Qg.l0.τ → Option ρ) : Option ρ :=
 let v2 : Int := (((List.length x.2.1) : Nat) : Int)
 bif (decide (v2 ≥ (64 : Int))) then (let v3 : (List Int) := x.1.1
 bif (decide (64 ≤ (List.length x.2.1))) then (let v4 : (List Int) := (List.take 64 (List.drop 0 x.2.1))
 (Q00 k v3 v4).bind fun t5 => bif (decide (((0 : Int) ≤ (64 : Int)) ∧ (((64 : Int) ≤ (((List.length x.2.1) : Nat) : Int)) ∧ ((((List.length x.2.1) : Nat) : Int) ≤ (((List.length x.2.1) : Nat) : Int))))) then (kn ((t5.1, ((), (x.1.2.2.1, ()))), ((List.take (Int.toNat ((((List.length x.2.1) : Nat) : Int) - (64 : Int))) (List.drop 64 x.2.1)), ()))) else (none)) else (none)) else (ke ((x.1.1, ((), (x.1.2.2.1, ()))), (x.2.1, ())))
def Qg.l0 (k : Nat) : Nat → Qg.l0.σ → Option Qg.l0.τ := Q1j (Qg.l0.r k)
def Qg.l0.T : StT := ⟨.ptr 0 [] :: us 52, [.pair (.dat Qea) (.pair (.vsl 1) (.dat Qe8)), .vec (.int .u8)]⟩
def Qg.l0.os : List Out := [⟨(.exit 0), [.mask [], .auto 1], ⟨us 53, [.pair (.dat Qea) (.pair (.vsl 1) (.dat Qe8)), .vec (.int .u8)]⟩⟩]
abbrev Qg.τ : Type := Qe3 
def Qg.c (k : Nat) {ρ : Type} (s : ByteArray) (b0 : Qe6) (K : Qg.τ → Option ρ) : Option ρ :=
 let v0 : Int := b0.2.2.1
 let v1 : Int := (IntKind.wrap IntKind.u64 (v0 + (IntKind.wrap IntKind.u64 (((ByteArray.size s) : Nat) : Int))))
 bif (Nat.ble ((List.length (Q0I s)) * 1) 140737488355328) then ((Qg.l0 k k ((b0.1, ((), (v1, ()))), ((Q0I s), ()))).bind fun t6 => K ((t6.1.1, ((), (t6.1.2.2.1, ()))), (t6.2.1, ()))) else (none)
def Qg (k : Nat) (s : ByteArray) (b0 : Qe6) : Option Qg.τ := Qg.c k s b0 some
def Qg.T : Q13 := ⟨[.ptr 0 [], .dat .str], [.pair (.dat Qea) (.pair (.nils) (.dat Qe8))], 1⟩
def Qg.os : List Out := [⟨.ret, [.auto 1], ⟨[], [.pair (.dat Qea) (.pair (.vsl 1) (.dat Qe8)), .vec (.int .u8)]⟩⟩]
def Qg.sem (k : Nat) : QP := Q14 Qg.T Qg.os fun x => Qg k x.1 x.2.1
noncomputable def Qg.ctx (k : Nat) : Ctx := ⟨Try.prog, gam [(99, (Q00.sem k))]⟩
theorem Qg.gok (k : Nat) : ∀ f, Qw Try.prog f ((Qg.ctx k).Γ f) := (Qe (Q00.sem_ok k) Q0b)
theorem Qg.l0.round (k : Nat) : Q1e (Qg.ctx k) (Q0K (Func.code Try.f92) [1, 1, 1, 0, 0]) (.nil) Qg.l0.T [.mask [0], .auto 1] Qg.l0.os (Qg.l0.r k) := by
 intro ρ x kn ke; kernel_rfl
theorem Qg.l0.ok (k : Nat) : StOK 1 Try.prog (.loop (Q0K (Func.code Try.f92) [1, 1, 1, 0, 0])) (Q01 Qg.l0.T Qg.l0.os (Qg.l0 k k)) :=
 Q1i (C := Qg.ctx k) (Qg.gok k) Try.mix Q1.nil (by kernel_rfl) (by kernel_rfl) (by kernel_rfl) (Qg.l0.round k) k
def Qg.ann (k : Nat) : Ann := .node [] none (.nil) (.node [] none (.nil) (.node [] none (.nil) (.node [] none (.node [.mask [0], .auto 1] (some (Q01 Qg.l0.T Qg.l0.os (Qg.l0 k k))) .nil .nil) (.nil))))
theorem Qg.body (k : Nat) : Q16 (Qg.ctx k) Try.f92 (Func.code Try.f92) (Qg.ann k) Qg.T Qg.os (fun x K => Qg.c k x.1 x.2.1 K) := by
 intro ρ x K; kernel_rfl
theorem Qg.sem_ok (k : Nat) : Qw Try.prog 92 (Qg.sem k) :=
 Q0r (C := Qg.ctx k) (Qg.gok k) Try.mix (c := Func.code Try.f92) (ann := Qg.ann k) (T := Qg.T) (os := Qg.os) (fun x K => Qg.c k x.1 x.2.1 K) Try.func92 (by kernel_rfl) (by kernel_rfl) (Q1.seq Q1.nil (Q1.seq Q1.nil (Q1.seq Q1.nil (Q1.block (Q1.loop (by kernel_rfl) (Qg.l0.ok k)))))) (Qg.body k) (by kernel_rfl) (by kernel_rfl) (by kernel_rfl)
abbrev Q0h.τ : Type := (Qe6 × (List Int) × Qe6 × (List Int) × Unit)
def Q0h.c (k : Nat) {ρ : Type} (b0 : Qe6) (b1 : (List Int)) (K : Q0h.τ → Option ρ) : Option ρ :=
 let v0 : (List Int) := b0.1
 bif (Nat.ble ((List.length b1) * 1) 140737488355328) then (let v1 : Int := b0.2.2.1
 K ((b0.1, ((), (b0.2.2.1, ()))), (b1, ((v0, ((), (v1, ()))), (b1, ()))))) else (none)
def Q0h (k : Nat) (b0 : Qe6) (b1 : (List Int)) : Option Q0h.τ := Q0h.c k b0 b1 some
def Q0h.T : Q13 := ⟨[.ptr 0 []], [.pair (.dat Qea) (.pair (.vsl 1) (.dat Qe8)), .vec (.int .u8)], 1⟩
def Q0h.os : List Out := [⟨.ret, [.auto 1], ⟨[.ptr 2 []], [.pair (.dat Qea) (.pair (.vsl 1) (.dat Qe8)), .vec (.int .u8), .pair (.dat Qea) (.pair (.vsl 3) (.dat Qe8)), .vec (.int .u8)]⟩⟩]
def Q0h.sem (k : Nat) : QP := Q14 Q0h.T Q0h.os fun x => Q0h k x.1 x.2.1
noncomputable def Q0h.ctx (k : Nat) : Ctx := ⟨Try.prog, gam []⟩
theorem Q0h.gok (k : Nat) : ∀ f, Qw Try.prog f ((Q0h.ctx k).Γ f) := Q0b
def Q0h.ann (k : Nat) : Ann := .nil
theorem Q0h.body (k : Nat) : Q16 (Q0h.ctx k) Try.f100 (Func.code Try.f100) (Q0h.ann k) Q0h.T Q0h.os (fun x K => Q0h.c k x.1 x.2.1 K) := by
 intro ρ x K; kernel_rfl
theorem Q0h.sem_ok (k : Nat) : Qw Try.prog 100 (Q0h.sem k) :=
 Q0r (C := Q0h.ctx k) (Q0h.gok k) Try.mix (c := Func.code Try.f100) (ann := Q0h.ann k) (T := Q0h.T) (os := Q0h.os) (fun x K => Q0h.c k x.1 x.2.1 K) Try.func100 (by kernel_rfl) (by kernel_rfl) Q1.nil (Q0h.body k) (by kernel_rfl) (by kernel_rfl) (by kernel_rfl)
abbrev Q0W.l0.σ : Type := Int × Int × (List Int) × Unit
abbrev Q0W.l0.τ : Type := Qed 
def Q0W.l0.r (k : Nat) {ρ : Type} (x : Q0W.l0.σ) (kn : Q0W.l0.σ → Option ρ) (ke : Q0W.l0.τ → Option ρ) : Option ρ :=
 bif (decide (x.2.1 < (8 : Int))) then (let v5 : Int := (Q2T IntKind.u64 x.1 (3 : Int))
 let v6 : Int := (IntKind.wrap IntKind.i64 ((7 : Int) - x.2.1))
 let v7 : Int := (IntKind.wrap IntKind.i64 ((8 : Int) * v6))
 bif (decide ((0 : Int) ≤ v7)) then (bif (Nat.ble (((List.length x.2.2.1) + (List.length (List.set (List.replicate 1 (0 : Int)) 0 (IntKind.wrap IntKind.u8 (Q1V IntKind.u64 v5 v7))))) * 1) 140737488355328) then (let v8 : Int := (IntKind.wrap IntKind.i64 (x.2.1 + (1 : Int)))
 kn (x.1, (v8, ((x.2.2.1 ++ (List.set (List.replicate 1 (0 : Int)) 0 (IntKind.wrap IntKind.u8 (Q1V IntKind.u64 v5 v7)))), ())))) else (none)) else (none)) else (ke (x.2.2.1, ()))
def Q0W.l0 (k : Nat) : Nat → Q0W.l0.σ → Option Q0W.l0.τ := Q1j (Q0W.l0.r k)
def Q0W.l0.T : StT := ⟨.dat (.int .u64) :: us 3 ++ .vsl 0 :: us 14 ++ .dat (.int .i64) :: us 15, [.vec (.int .u8)]⟩
def Q0W.l0.os : List Out := [⟨(.exit 0), [.mask [4], .auto 0], ⟨us 4 ++ .vsl 0 :: us 30, [.vec (.int .u8)]⟩⟩]
def Q0W.c (k : Nat) {ρ : Type} (n : Int) (K : ByteArray × Unit → Option ρ) : Option ρ :=
 let v0 : Int := (IntKind.wrap IntKind.i64 (Int.tmod n (64 : Int)))
 let v1 : Int := (IntKind.wrap IntKind.i64 ((119 : Int) - v0))
 let v2 : Int := (IntKind.wrap IntKind.i64 ((1 : Int) + (Int.tmod v1 (64 : Int))))
 let v3 : Int := (IntKind.wrap IntKind.i64 ((1 : Int) + (Int.tmod v1 (64 : Int))))
 let v4 : Int := (IntKind.wrap IntKind.i64 (v3 + (8 : Int)))
 bif ((decide (((0 : Int) ≤ v2) ∧ (v2 ≤ v4))) && (Nat.ble ((Int.toNat v4) * 1) 140737488355328)) then (bif (decide (((0 : Int) ≤ (0 : Int)) ∧ ((0 : Int) < (((List.length (List.replicate (Int.toNat v2) (0 : Int))) : Nat) : Int)))) then ((Q0W.l0 k k (n, ((0 : Int), ((List.set (List.replicate (Int.toNat v2) (0 : Int)) 0 (128 : Int)), ())))).bind fun t9 => K ((bytesOf t9.1), ())) else (none)) else (none)
def Q0W (k : Nat) (n : Int) : Option (ByteArray × Unit) := Q0W.c k n some
def Q0W.tin : List Ty := [(.int .u64)]
def Q0W.tout : List Ty := [.str]
def Q0W.sem (k : Nat) : QP := Q15 Q0W.tin Q0W.tout fun x => Q0W k x.1
noncomputable def Q0W.ctx (k : Nat) : Ctx := ⟨Try.prog, gam []⟩
theorem Q0W.gok (k : Nat) : ∀ f, Qw Try.prog f ((Q0W.ctx k).Γ f) := Q0b
theorem Q0W.l0.round (k : Nat) : Q1e (Q0W.ctx k) (Q0K (Func.code Try.f101) [1, 1, 1, 1, 0, 1, 0, 0]) (.nil) Q0W.l0.T [.mask [0, 4, 19], .auto 0] Q0W.l0.os (Q0W.l0.r k) := by
 intro ρ x kn ke; kernel_rfl
theorem Q0W.l0.ok (k : Nat) : StOK 0 Try.prog (.loop (Q0K (Func.code Try.f101) [1, 1, 1, 1, 0, 1, 0, 0])) (Q01 Q0W.l0.T Q0W.l0.os (Q0W.l0 k k)) :=
 Q1i (C := Q0W.ctx k) (Q0W.gok k) Try.mix Q1.nil (by kernel_rfl) (by kernel_rfl) (by kernel_rfl) (Q0W.l0.round k) k
def Q0W.ann (k : Nat) : Ann := .node [] none (.nil) (.node [] none (.nil) (.node [] none (.nil) (.node [] none (.nil) (.node [] none (.node [] none (.nil) (.node [] none (.node [.mask [0, 4, 19], .auto 0] (some (Q01 Q0W.l0.T Q0W.l0.os (Q0W.l0 k k))) .nil .nil) (.nil))) (.nil)))))
theorem Q0W.body (k : Nat) : Q1n (Q0W.ctx k) Try.f101 (Func.code Try.f101) (Q0W.ann k) Q0W.tin Q0W.tout (fun x K => Q0W.c k x.1 K) := by
 intro ρ x K; kernel_rfl
theorem Q0W.sem_ok (k : Nat) : Qw Try.prog 101 (Q0W.sem k) :=
 Q11 (C := Q0W.ctx k) (Q0W.gok k) Try.mix (c := Func.code Try.f101) (ann := Q0W.ann k) (tin := Q0W.tin) (tout := Q0W.tout) (fun x K => Q0W.c k x.1 K) Try.func101 (by kernel_rfl) (by kernel_rfl) (Q1.seq Q1.nil (Q1.seq Q1.nil (Q1.seq Q1.nil (Q1.seq Q1.nil (Q1.seq (Q1.seq Q1.nil (Q1.block (Q1.loop (by kernel_rfl) (Q0W.l0.ok k)))) Q1.nil))))) (Q0W.body k)
abbrev Qc.l0.σ : Type := Qe6 × (List Int) × Unit
abbrev Qc.l0.τ : Type := Qe3 
def Qc.l0.r (k : Nat) {ρ : Type} (x : Qc.l0.σ) (kn : Qc.l0.σ → Option ρ) (ke : Qc.l0.τ → Option ρ) : Option ρ :=
 let v2 : Int := (((List.length x.2.1) : Nat) : Int)
 bif (decide (v2 ≥ (64 : Int))) then (let v3 : (List Int) := x.1.1
 bif (decide (64 ≤ (List.length x.2.1))) then (let v4 : (List Int) := (List.take 64 (List.drop 0 x.2.1))
 (Q00 k v3 v4).bind fun t5 => bif (decide (((0 : Int) ≤ (64 : Int)) ∧ (((64 : Int) ≤ (((List.length x.2.1) : Nat) : Int)) ∧ ((((List.length x.2.1) : Nat) : Int) ≤ (((List.length x.2.1) : Nat) : Int))))) then (kn ((t5.1, ((), (x.1.2.2.1, ()))), ((List.take (Int.toNat ((((List.length x.2.1) : Nat) : Int) - (64 : Int))) (List.drop 64 x.2.1)), ()))) else (none)) else (none)) else (ke ((x.1.1, ((), (x.1.2.2.1, ()))), (x.2.1, ())))
def Qc.l0 (k : Nat) : Nat → Qc.l0.σ → Option Qc.l0.τ := Q1j (Qc.l0.r k)
def Qc.l0.T : StT := ⟨.ptr 0 [] :: us 52, [.pair (.dat Qea) (.pair (.vsl 1) (.dat Qe8)), .vec (.int .u8)]⟩
def Qc.l0.os : List Out := [⟨(.exit 0), [.mask [], .auto 1], ⟨us 53, [.pair (.dat Qea) (.pair (.vsl 1) (.dat Qe8)), .vec (.int .u8)]⟩⟩]
abbrev Qc.τ : Type := Qe3 
def Qc.c (k : Nat) {ρ : Type} (s : ByteArray) (b0 : Qe6) (b1 : (List Int)) (K : Qc.τ → Option ρ) : Option ρ :=
 let v0 : Int := b0.2.2.1
 let v1 : Int := (IntKind.wrap IntKind.u64 (v0 + (IntKind.wrap IntKind.u64 (((ByteArray.size s) : Nat) : Int))))
 bif (Nat.ble (((List.length b1) + (List.length (Q0I s))) * 1) 140737488355328) then ((Qc.l0 k k ((b0.1, ((), (v1, ()))), ((b1 ++ (Q0I s)), ()))).bind fun t6 => K ((t6.1.1, ((), (t6.1.2.2.1, ()))), (t6.2.1, ()))) else (none)
def Qc (k : Nat) (s : ByteArray) (b0 : Qe6) (b1 : (List Int)) : Option Qc.τ := Qc.c k s b0 b1 some
def Qc.T : Q13 := ⟨[.ptr 0 [], .dat .str], [.pair (.dat Qea) (.pair (.vsl 1) (.dat Qe8)), .vec (.int .u8)], 1⟩
def Qc.os : List Out := [⟨.ret, [.auto 1], ⟨[], [.pair (.dat Qea) (.pair (.vsl 1) (.dat Qe8)), .vec (.int .u8)]⟩⟩]
def Qc.sem (k : Nat) : QP := Q14 Qc.T Qc.os fun x => Qc k x.1 x.2.1 x.2.2.1
noncomputable def Qc.ctx (k : Nat) : Ctx := ⟨Try.prog, gam [(99, (Q00.sem k))]⟩
theorem Qc.gok (k : Nat) : ∀ f, Qw Try.prog f ((Qc.ctx k).Γ f) := (Qe (Q00.sem_ok k) Q0b)
theorem Qc.l0.round (k : Nat) : Q1e (Qc.ctx k) (Q0K (Func.code Try.f92) [1, 1, 1, 0, 0]) (.nil) Qc.l0.T [.mask [0], .auto 1] Qc.l0.os (Qc.l0.r k) := by
 intro ρ x kn ke; kernel_rfl
theorem Qc.l0.ok (k : Nat) : StOK 1 Try.prog (.loop (Q0K (Func.code Try.f92) [1, 1, 1, 0, 0])) (Q01 Qc.l0.T Qc.l0.os (Qc.l0 k k)) :=
 Q1i (C := Qc.ctx k) (Qc.gok k) Try.mix Q1.nil (by kernel_rfl) (by kernel_rfl) (by kernel_rfl) (Qc.l0.round k) k
def Qc.ann (k : Nat) : Ann := .node [] none (.nil) (.node [] none (.nil) (.node [] none (.nil) (.node [] none (.node [.mask [0], .auto 1] (some (Q01 Qc.l0.T Qc.l0.os (Qc.l0 k k))) .nil .nil) (.nil))))
theorem Qc.body (k : Nat) : Q16 (Qc.ctx k) Try.f92 (Func.code Try.f92) (Qc.ann k) Qc.T Qc.os (fun x K => Qc.c k x.1 x.2.1 x.2.2.1 K) := by
 intro ρ x K; kernel_rfl
theorem Qc.sem_ok (k : Nat) : Qw Try.prog 92 (Qc.sem k) :=
 Q0r (C := Qc.ctx k) (Qc.gok k) Try.mix (c := Func.code Try.f92) (ann := Qc.ann k) (T := Qc.T) (os := Qc.os) (fun x K => Qc.c k x.1 x.2.1 x.2.2.1 K) Try.func92 (by kernel_rfl) (by kernel_rfl) (Q1.seq Q1.nil (Q1.seq Q1.nil (Q1.seq Q1.nil (Q1.block (Q1.loop (by kernel_rfl) (Qc.l0.ok k)))))) (Qc.body k) (by kernel_rfl) (by kernel_rfl) (by kernel_rfl)
abbrev Qa.l1.σ : Type := Int × Int × (List Int) × Int × Int × Qe6 × (List Int) × (List Int) × (List Int) × Unit
abbrev Qa.l1.τ : Type := ((List Int) × Int × Qe6 × (List Int) × (List Int) × (List Int) × Unit)
def Qa.l1.r (k : Nat) {ρ : Type} (x : Qa.l1.σ) (kn : Qa.l1.σ → Option ρ) (ke : Qa.l1.τ → Option ρ) : Option ρ :=
 bif (decide (x.2.2.2.2.1 < (4 : Int))) then (let v6 : Int := (IntKind.wrap IntKind.i64 ((4 : Int) * x.1))
 let v7 : Int := (IntKind.wrap IntKind.i64 (v6 + x.2.2.2.2.1))
 let v8 : Int := (IntKind.wrap IntKind.i64 ((3 : Int) - x.2.2.2.2.1))
 let v9 : Int := (IntKind.wrap IntKind.i64 ((8 : Int) * v8))
 bif (decide ((0 : Int) ≤ v9)) then (let v10 : Int := (Q1V IntKind.u32 x.2.1 v9)
 bif (decide (((0 : Int) ≤ v7) ∧ (v7 < ((32 : Nat) : Int)))) then (let v11 : Int := (IntKind.wrap IntKind.i64 (x.2.2.2.2.1 + (1 : Int)))
 kn (x.1, (x.2.1, (x.2.2.1, (x.2.2.2.1, (v11, ((x.2.2.2.2.2.1.1, ((), (x.2.2.2.2.2.1.2.2.1, ()))), (x.2.2.2.2.2.2.1, (x.2.2.2.2.2.2.2.1, ((List.set x.2.2.2.2.2.2.2.2.1 (Int.toNat v7) (IntKind.wrap IntKind.u8 v10)), ())))))))))) else (none)) else (none)) else (ke (x.2.2.1, (x.2.2.2.1, ((x.2.2.2.2.2.1.1, ((), (x.2.2.2.2.2.1.2.2.1, ()))), (x.2.2.2.2.2.2.1, (x.2.2.2.2.2.2.2.1, (x.2.2.2.2.2.2.2.2.1, ())))))))
def Qa.l1 (k : Nat) : Nat → Qa.l1.σ → Option Qa.l1.τ := Q1j (Qa.l1.r k)
def Qa.l1.T : StT := ⟨us 2 ++ .ptr 2 [] :: us 1 ++ .ptr 3 [] :: .dat (.int .i64) :: .dat (.int .u32) :: us 17 ++ .dat Qea :: .dat (.int .i64) :: us 3 ++ .dat (.int .i64) :: us 16, [.pair (.dat Qea) (.pair (.vsl 1) (.dat Qe8)), .vec (.int .u8), .dat Qec, .dat Qec]⟩
def Qa.l1.os : List Out := [⟨(.exit 2), [.mask [2, 4, 24, 25], .auto 1], ⟨us 2 ++ .ptr 2 [] :: us 1 ++ .ptr 3 [] :: us 19 ++ .dat Qea :: .dat (.int .i64) :: us 20, [.pair (.dat Qea) (.pair (.vsl 1) (.dat Qe8)), .vec (.int .u8), .dat Qec, .dat Qec]⟩⟩]
abbrev Qa.l0.σ : Type := (List Int) × Int × Qe6 × (List Int) × (List Int) × (List Int) × Unit
abbrev Qa.l0.τ : Type := (Qe6 × (List Int) × (List Int) × (List Int) × Unit)
def Qa.l0.r (k : Nat) {ρ : Type} (x : Qa.l0.σ) (kn : Qa.l0.σ → Option ρ) (ke : Qa.l0.τ → Option ρ) : Option ρ :=
 bif (decide (x.2.1 < (8 : Int))) then (bif (decide (((0 : Int) ≤ x.2.1) ∧ (x.2.1 < ((8 : Nat) : Int)))) then (let v5 : Int := (List.getD x.1 (Int.toNat x.2.1) (0 : Int))
 (Qa.l1 k k (x.2.1, (v5, (x.1, (x.2.1, ((0 : Int), ((x.2.2.1.1, ((), (x.2.2.1.2.2.1, ()))), (x.2.2.2.1, (x.2.2.2.2.1, (x.2.2.2.2.2.1, ())))))))))).bind fun t12 => let v13 : Int := (IntKind.wrap IntKind.i64 (t12.2.1 + (1 : Int)))
 kn (t12.1, (v13, ((t12.2.2.1.1, ((), (t12.2.2.1.2.2.1, ()))), (t12.2.2.2.1, (t12.2.2.2.2.1, (t12.2.2.2.2.2.1, ()))))))) else (none)) else (ke ((x.2.2.1.1, ((), (x.2.2.1.2.2.1, ()))), (x.2.2.2.1, (x.2.2.2.2.1, (x.2.2.2.2.2.1, ())))))
def Qa.l0 (k : Nat) : Nat → Qa.l0.σ → Option Qa.l0.τ := Q1j (Qa.l0.r k)
def Qa.l0.T : StT := ⟨us 2 ++ .ptr 2 [] :: us 1 ++ .ptr 3 [] :: us 19 ++ .dat Qea :: .dat (.int .i64) :: us 20, [.pair (.dat Qea) (.pair (.vsl 1) (.dat Qe8)), .vec (.int .u8), .dat Qec, .dat Qec]⟩
def Qa.l0.os : List Out := [⟨(.exit 0), [.mask [2, 4], .auto 1], ⟨us 2 ++ .ptr 2 [] :: us 1 ++ .ptr 3 [] :: us 41, [.pair (.dat Qea) (.pair (.vsl 1) (.dat Qe8)), .vec (.int .u8), .dat Qec, .dat Qec]⟩⟩]
abbrev Qa.τ : Type := ((List Int) × Qe6 × (List Int) × Unit)
def Qa.c (k : Nat) {ρ : Type} (b0 : Qe6) (b1 : (List Int)) (K : Qa.τ → Option ρ) : Option ρ :=
 (Q0h k (b0.1, ((), (b0.2.2.1, ()))) b1).bind fun t0 => let v1 : Int := t0.1.2.2.1
 (Q0W k v1).bind fun t2 => (Qc k t2.1 (t0.2.2.1.1, ((), (t0.2.2.1.2.2.1, ()))) t0.2.2.2.1).bind fun t3 => let v4 : (List Int) := t3.1.1
 (Qa.l0 k k (v4, ((0 : Int), ((t0.1.1, ((), (t0.1.2.2.1, ()))), (t0.2.1, ((List.replicate 32 (0 : Int)), ((List.replicate 32 (0 : Int)), ()))))))).bind fun t14 => let v15 : (List Int) := t14.2.2.2.1
 K (v15, ((t14.1.1, ((), (t14.1.2.2.1, ()))), (t14.2.1, ())))
def Qa (k : Nat) (b0 : Qe6) (b1 : (List Int)) : Option Qa.τ := Qa.c k b0 b1 some
def Qa.T : Q13 := ⟨[.ptr 0 []], [.pair (.dat Qea) (.pair (.vsl 1) (.dat Qe8)), .vec (.int .u8)], 1⟩
def Qa.os : List Out := [⟨.ret, [.freeze (.slot 0), .auto 1], ⟨[.dat Qec], [.pair (.dat Qea) (.pair (.vsl 1) (.dat Qe8)), .vec (.int .u8)]⟩⟩]
def Qa.sem (k : Nat) : QP := Q14 Qa.T Qa.os fun x => Qa k x.1 x.2.1
noncomputable def Qa.ctx (k : Nat) : Ctx := ⟨Try.prog, gam [(100, (Q0h.sem k)), (101, (Q0W.sem k)), (92, (Qc.sem k))]⟩
theorem Qa.gok (k : Nat) : ∀ f, Qw Try.prog f ((Qa.ctx k).Γ f) := (Qe (Q0h.sem_ok k) (Qe (Q0W.sem_ok k) (Qe (Qc.sem_ok k) Q0b)))
theorem Qa.l1.round (k : Nat) : Q1e (Qa.ctx k) (Q0K (Func.code Try.f93) [1, 1, 1, 1, 1, 0, 1, 0, 0, 1, 1, 0, 0, 1, 1, 0, 0]) (.nil) Qa.l1.T [.mask [2, 4, 5, 6, 24, 25, 29], .auto 1] Qa.l1.os (Qa.l1.r k) := by
 intro ρ x kn ke; kernel_rfl
theorem Qa.l1.ok (k : Nat) : StOK 1 Try.prog (.loop (Q0K (Func.code Try.f93) [1, 1, 1, 1, 1, 0, 1, 0, 0, 1, 1, 0, 0, 1, 1, 0, 0])) (Q01 Qa.l1.T Qa.l1.os (Qa.l1 k k)) :=
 Q1i (C := Qa.ctx k) (Qa.gok k) Try.mix Q1.nil (by kernel_rfl) (by kernel_rfl) (by kernel_rfl) (Qa.l1.round k) k
theorem Qa.l0.round (k : Nat) : Q1e (Qa.ctx k) (Q0K (Func.code Try.f93) [1, 1, 1, 1, 1, 0, 1, 0, 0]) (.node [] none (.nil) (.node [] none (.nil) (.node [] none (.node [] none (.node [] none (.nil) (.node [] none (.nil) (.node [] none (.node [.mask [2, 4, 5, 6, 24, 25, 29], .auto 1] (some (Q01 Qa.l1.T Qa.l1.os (Qa.l1 k k))) .nil .nil) (.nil)))) (.nil)) (.nil)))) Qa.l0.T [.mask [2, 4, 24, 25], .auto 1] Qa.l0.os (Qa.l0.r k) := by
 intro ρ x kn ke; kernel_rfl
theorem Qa.l0.ok (k : Nat) : StOK 1 Try.prog (.loop (Q0K (Func.code Try.f93) [1, 1, 1, 1, 1, 0, 1, 0, 0])) (Q01 Qa.l0.T Qa.l0.os (Qa.l0 k k)) :=
 Q1i (C := Qa.ctx k) (Qa.gok k) Try.mix (Q1.seq Q1.nil (Q1.seq Q1.nil (Q1.seq (Q1.block (Q1.seq Q1.nil (Q1.seq Q1.nil (Q1.block (Q1.loop (by kernel_rfl) (Qa.l1.ok k)))))) Q1.nil))) (by kernel_rfl) (by kernel_rfl) (by kernel_rfl) (Qa.l0.round k) k
def Qa.ann (k : Nat) : Ann := .node [] none (.nil) (.node [] none (.nil) (.node [] none (.nil) (.node [] none (.nil) (.node [] none (.nil) (.node [] none (.node [] none (.nil) (.node [] none (.node [.mask [2, 4, 24, 25], .auto 1] (some (Q01 Qa.l0.T Qa.l0.os (Qa.l0 k k))) .nil .nil) (.nil))) (.nil))))))
theorem Qa.body (k : Nat) : Q16 (Qa.ctx k) Try.f93 (Func.code Try.f93) (Qa.ann k) Qa.T Qa.os (fun x K => Qa.c k x.1 x.2.1 K) := by
 intro ρ x K; kernel_rfl
theorem Qa.sem_ok (k : Nat) : Qw Try.prog 93 (Qa.sem k) :=
 Q0r (C := Qa.ctx k) (Qa.gok k) Try.mix (c := Func.code Try.f93) (ann := Qa.ann k) (T := Qa.T) (os := Qa.os) (fun x K => Qa.c k x.1 x.2.1 K) Try.func93 (by kernel_rfl) (by kernel_rfl) (Q1.seq Q1.nil (Q1.seq Q1.nil (Q1.seq Q1.nil (Q1.seq Q1.nil (Q1.seq Q1.nil (Q1.seq (Q1.seq Q1.nil (Q1.block (Q1.loop (by kernel_rfl) (Qa.l0.ok k)))) Q1.nil)))))) (Qa.body k) (by kernel_rfl) (by kernel_rfl) (by kernel_rfl)
def Q1g.c (k : Nat) {ρ : Type} (s : ByteArray) (K : (List Int) × Unit → Option ρ) : Option ρ :=
 (Q1h k ).bind fun t0 => (Qg k s (t0.1.1, ((), (t0.1.2.2.1, ())))).bind fun t1 => (Qa k (t1.1.1, ((), (t1.1.2.2.1, ()))) t1.2.1).bind fun t2 => K (t2.1, ())
def Q1g (k : Nat) (s : ByteArray) : Option Qed := Q1g.c k s some
def Q1g.tin : List Ty := [.str]
def Q1g.tout : List Ty := [Qec]
def Q1g.sem (k : Nat) : QP := Q15 Q1g.tin Q1g.tout fun x => Q1g k x.1
noncomputable def Q1g.ctx (k : Nat) : Ctx := ⟨Try.prog, gam [(91, (Q1h.sem k)), (92, (Qg.sem k)), (93, (Qa.sem k))]⟩
theorem Q1g.gok (k : Nat) : ∀ f, Qw Try.prog f ((Q1g.ctx k).Γ f) := (Qe (Q1h.sem_ok k) (Qe (Qg.sem_ok k) (Qe (Qa.sem_ok k) Q0b)))
def Q1g.ann (k : Nat) : Ann := .nil
theorem Q1g.body (k : Nat) : Q1n (Q1g.ctx k) Try.f84 (Func.code Try.f84) (Q1g.ann k) Q1g.tin Q1g.tout (fun x K => Q1g.c k x.1 K) := by
 intro ρ x K; kernel_rfl
theorem Q1g.sem_ok (k : Nat) : Qw Try.prog 84 (Q1g.sem k) :=
 Q11 (C := Q1g.ctx k) (Q1g.gok k) Try.mix (c := Func.code Try.f84) (ann := Q1g.ann k) (tin := Q1g.tin) (tout := Q1g.tout) (fun x K => Q1g.c k x.1 K) Try.func84 (by kernel_rfl) (by kernel_rfl) Q1.nil (Q1g.body k)
def Q17.c (k : Nat) {ρ : Type} (s : ByteArray) (K : (List Int) × Unit → Option ρ) : Option ρ :=
 (Q1g k s).bind fun t0 => let v1 : ByteArray := (bytesOf (List.take 32 (List.drop 0 t0.1)))
 (Q1g k v1).bind fun t2 => K (t2.1, ())
def Q17 (k : Nat) (s : ByteArray) : Option Qed := Q17.c k s some
def Q17.tin : List Ty := [.str]
def Q17.tout : List Ty := [Qec]
def Q17.sem (k : Nat) : QP := Q15 Q17.tin Q17.tout fun x => Q17 k x.1
noncomputable def Q17.ctx (k : Nat) : Ctx := ⟨Try.prog, gam [(84, (Q1g.sem k))]⟩
theorem Q17.gok (k : Nat) : ∀ f, Qw Try.prog f ((Q17.ctx k).Γ f) := (Qe (Q1g.sem_ok k) Q0b)
def Q17.ann (k : Nat) : Ann := .nil
theorem Q17.body (k : Nat) : Q1n (Q17.ctx k) Try.f68 (Func.code Try.f68) (Q17.ann k) Q17.tin Q17.tout (fun x K => Q17.c k x.1 K) := by
 intro ρ x K; kernel_rfl
theorem Q17.sem_ok (k : Nat) : Qw Try.prog 68 (Q17.sem k) :=
 Q11 (C := Q17.ctx k) (Q17.gok k) Try.mix (c := Func.code Try.f68) (ann := Q17.ann k) (tin := Q17.tin) (tout := Q17.tout) (fun x K => Q17.c k x.1 K) Try.func68 (by kernel_rfl) (by kernel_rfl) Q1.nil (Q17.body k)
def Q0V.c (k : Nat) {ρ : Type} (s : ByteArray) (K : ByteArray × Unit → Option ρ) : Option ρ :=
 (Q17 k s).bind fun t0 => let v1 : ByteArray := (bytesOf (List.take 4 (List.drop 0 t0.1)))
 K (v1, ())
def Q0V (k : Nat) (s : ByteArray) : Option (ByteArray × Unit) := Q0V.c k s some
def Q0V.tin : List Ty := [.str]
def Q0V.tout : List Ty := [.str]
def Q0V.sem (k : Nat) : QP := Q15 Q0V.tin Q0V.tout fun x => Q0V k x.1
noncomputable def Q0V.ctx (k : Nat) : Ctx := ⟨Try.prog, gam [(68, (Q17.sem k))]⟩
theorem Q0V.gok (k : Nat) : ∀ f, Qw Try.prog f ((Q0V.ctx k).Γ f) := (Qe (Q17.sem_ok k) Q0b)
def Q0V.ann (k : Nat) : Ann := .nil
theorem Q0V.body (k : Nat) : Q1n (Q0V.ctx k) Try.f39 (Func.code Try.f39) (Q0V.ann k) Q0V.tin Q0V.tout (fun x K => Q0V.c k x.1 K) := by
 intro ρ x K; kernel_rfl
theorem Q0V.sem_ok (k : Nat) : Qw Try.prog 39 (Q0V.sem k) :=
 Q11 (C := Q0V.ctx k) (Q0V.gok k) Try.mix (c := Func.code Try.f39) (ann := Q0V.ann k) (tin := Q0V.tin) (tout := Q0V.tout) (fun x K => Q0V.c k x.1 K) Try.func39 (by kernel_rfl) (by kernel_rfl) Q1.nil (Q0V.body k)
def Q05.c (k : Nat) {ρ : Type} (epoch : Int) (number : Int) (s : ByteArray) (K : ByteArray × Int × Unit → Option ρ) : Option ρ :=
 bif (decide ((((ByteArray.size s) : Nat) : Int) > (65536 : Int))) then (K ((⟨(List.toArray [])⟩ : ByteArray), ((121 : Int), ()))) else ((Q0G k ).bind fun t0 => (Q0z k (IntKind.wrap IntKind.u32 (((ByteArray.size s) : Nat) : Int)) (((), ((), ())), ()) t0.2.1).bind fun t1 => (Q0t k number (((), ((), ())), ()) t1.2.1).bind fun t2 => (Q02 k s (((), ((), ())), ()) t2.2.1).bind fun t3 => (Q0l k (((), ((), ())), ()) t3.2.1).bind fun t4 => (Q0M k epoch).bind fun t5 => bif (Nat.ble ((ByteArray.size t5.1) + (ByteArray.size t4.1)) 9223372036854775807) then (let v6 : ByteArray := (t5.1 ++ t4.1)
 (Q0V k v6).bind fun t7 => bif (Nat.ble ((ByteArray.size t4.1) + (ByteArray.size t7.1)) 9223372036854775807) then (let v8 : ByteArray := (t4.1 ++ t7.1)
 K (v8, ((0 : Int), ()))) else (none)) else (none))
def Q05 (k : Nat) (epoch : Int) (number : Int) (s : ByteArray) : Option (ByteArray × Int × Unit) := Q05.c k epoch number s some
def Q05.tin : List Ty := [(.int .u64), (.int .u64), .str]
def Q05.tout : List Ty := [.str, (.int .i64)]
def Q05.sem (k : Nat) : QP := Q15 Q05.tin Q05.tout fun x => Q05 k x.1 x.2.1 x.2.2.1
noncomputable def Q05.ctx (k : Nat) : Ctx := ⟨Try.prog, gam [(34, (Q0G.sem k)), (35, (Q0z.sem k)), (36, (Q0t.sem k)), (37, (Q02.sem k)), (38, (Q0l.sem k)), (40, (Q0M.sem k)), (39, (Q0V.sem k))]⟩
theorem Q05.gok (k : Nat) : ∀ f, Qw Try.prog f ((Q05.ctx k).Γ f) := (Qe (Q0G.sem_ok k) (Qe (Q0z.sem_ok k) (Qe (Q0t.sem_ok k) (Qe (Q02.sem_ok k) (Qe (Q0l.sem_ok k) (Qe (Q0M.sem_ok k) (Qe (Q0V.sem_ok k) Q0b)))))))
def Q05.ann (k : Nat) : Ann := .nil
theorem Q05.body (k : Nat) : Q1n (Q05.ctx k) Try.f7 (Func.code Try.f7) (Q05.ann k) Q05.tin Q05.tout (fun x K => Q05.c k x.1 x.2.1 x.2.2.1 K) := by
 intro ρ x K; kernel_rfl
theorem Q05.sem_ok (k : Nat) : Qw Try.prog 7 (Q05.sem k) :=
 Q11 (C := Q05.ctx k) (Q05.gok k) Try.mix (c := Func.code Try.f7) (ann := Q05.ann k) (tin := Q05.tin) (tout := Q05.tout) (fun x K => Q05.c k x.1 x.2.1 x.2.2.1 K) Try.func7 (by kernel_rfl) (by kernel_rfl) Q1.nil (Q05.body k)
end Go.Am
namespace Go.Am
open Go Go.Proofs
set_option maxRecDepth 100000
def Q0n.c (k : Nat) {ρ : Type} (epoch : Int) (K : ByteArray × Unit → Option ρ) : Option ρ :=
 (Q0M k epoch).bind fun t0 => bif (Nat.ble (8 + (ByteArray.size t0.1)) 9223372036854775807) then (let v1 : ByteArray := ((⟨(List.toArray [98, 101, 100, 114, 111, 99, 107, 106])⟩ : ByteArray) ++ t0.1)
 (Q0V k v1).bind fun t2 => bif (Nat.ble ((ByteArray.size v1) + (ByteArray.size t2.1)) 9223372036854775807) then (let v3 : ByteArray := (v1 ++ t2.1)
 K (v3, ())) else (none)) else (none)
def Q0n (k : Nat) (epoch : Int) : Option (ByteArray × Unit) := Q0n.c k epoch some
def Q0n.tin : List Ty := [(.int .u64)]
def Q0n.tout : List Ty := [.str]
def Q0n.sem (k : Nat) : QP := Q15 Q0n.tin Q0n.tout fun x => Q0n k x.1
noncomputable def Q0n.ctx (k : Nat) : Ctx := ⟨Try.prog, gam [(40, (Q0M.sem k)), (39, (Q0V.sem k))]⟩
theorem Q0n.gok (k : Nat) : ∀ f, Qw Try.prog f ((Q0n.ctx k).Γ f) := (Qe (Q0M.sem_ok k) (Qe (Q0V.sem_ok k) Q0b))
def Q0n.ann (k : Nat) : Ann := .nil
theorem Q0n.body (k : Nat) : Q1n (Q0n.ctx k) Try.f9 (Func.code Try.f9) (Q0n.ann k) Q0n.tin Q0n.tout (fun x K => Q0n.c k x.1 K) := by
 intro ρ x K; kernel_rfl
theorem Q0n.sem_ok (k : Nat) : Qw Try.prog 9 (Q0n.sem k) :=
 Q11 (C := Q0n.ctx k) (Q0n.gok k) Try.mix (c := Func.code Try.f9) (ann := Q0n.ann k) (tin := Q0n.tin) (tout := Q0n.tout) (fun x K => Q0n.c k x.1 K) Try.func9 (by kernel_rfl) (by kernel_rfl) Q1.nil (Q0n.body k)
end Go.Am
