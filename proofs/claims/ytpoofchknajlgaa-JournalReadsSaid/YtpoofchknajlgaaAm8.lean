/- A part of a proof: a machine of abstract values that tells what functions of the program compute, and the plain facts on them. -/
import Derived.Test.YtpoofchknajlgaaAm6
import Derived.Test.YtpoofchknajlgaaRows
import Derived.KernelRfl
import Derived.Test.YtpoofchknajlgaaProg
import Derived.Test.YtpoofchknajlgaaAm7
set_option linter.unusedVariables false
set_option linter.unusedSimpArgs false
set_option linter.unnecessarySimpa false
set_option linter.unusedSectionVars false
namespace Go.Am
abbrev QeF : Type := ((List Int) × Unit)
abbrev QeE : Ty := (.arr 32 (.int .u8))
abbrev QeD : Ty := (.arr 64 (.int .u8))
abbrev QeC : Ty := (.arr 8 (.int .u32))
abbrev QeB : Ty := (.arr 64 (.int .u32))
abbrev QeA : Ty := (.pair (.int .u64) .unit)
abbrev Qez : Type := ((Unit × (Unit × Unit)) × Unit)
abbrev Qey : Type := ((List Int) × (Unit × (Int × Unit)))
abbrev Qex : Type := ((List Int) × (List Int) × (List Int) × Unit)
abbrev Qew : Type := ( Qez  × (List Int) × Unit)
abbrev Qev : Type := ( Qey  × (List Int) × Unit)
end Go.Am
namespace Go.Proofs.Ytpoofchknajlgaa
open Go.RowKit Go.Am
theorem Try.own : ownKnob Try.prog.godebug = none := by kernel_rfl
theorem Try.laidOut : laidOutB Try.prog = true := by kernel_rfl
end Go.Proofs.Ytpoofchknajlgaa
namespace Go.Am
open Go
theorem Qef {p : Int → Prop} {l : List Int} (h : ∀ i, i < l.length → p (l.getD i 0)) : ∀ x ∈ l, p x := by
 intro x hx
 obtain ⟨i, hi, rfl⟩ := List.getElem_of_mem hx
 have := h i hi
 rw [List.getD_eq_getElem?_getD] at this
 simpa [hi] using this
theorem Qd4 : reachBytes = 140737488351232 := rfl
end Go.Am
namespace Go.Am
open Go Go.Proofs
theorem _root_.Go.Proofs.Try.mix : Try.prog.follows .mixedOrders = true := by kernel_rfl
end Go.Am
namespace Go.Am
open Go Go.Proofs Go.Shelf
set_option maxRecDepth 100000
def Bld.fs : List (Nat × Nat) := [(240, 83), (276, 90), (169, 67)]
def Bld.ts : List (Nat × Nat) := [(72, 104), (70, 101), (164, 131), (37, 102), (127, 126)]
def Bld.look : List (Nat × Nat) → Nat → Nat
 | [], n => n
 | (a, b) :: l, n => if n = a then b else Bld.look l n
def Bld.ren : Ren := ⟨Bld.look Bld.fs, Bld.look Bld.ts, fun n => n⟩
theorem Bld.lays240 : Lays.n240 Try.prog Bld.ren := by
 constructor <;> first | kernel_rfl | (intro w; kernel_rfl)
theorem Bld.lays169 : Lays.n169 Try.prog Bld.ren := by
 constructor <;> first | kernel_rfl | (intro w; kernel_rfl)
theorem Bld.x72 : Builder.X72 Try.prog Bld.ren where
 sizeBuilder := by kernel_rfl
 liesBuilder := by kernel_rfl
theorem Bld.extra : Builder.Extra Try.prog Bld.ren where
 sizeBuilder := by kernel_rfl
 liesBuilder := by kernel_rfl
 t5 := by kernel_rfl
 a5 := fun w => by kernel_rfl
 z5 := fun w => by kernel_rfl
 v5 := fun w => by kernel_rfl
 infoByte := by kernel_rfl
 cellsByte := by kernel_rfl
 sizeByte := by kernel_rfl
 neB5 := by decide
theorem Bld.copyCheck : Qu Try.prog 83 (QcK 106 2) := Q9F Bld.lays240 Bld.x72 (by kernel_rfl) (by constructor <;> kernel_rfl)
theorem Bld.string : Qu Try.prog 67 QaE := QbT Bld.lays169 Bld.extra rfl (by constructor <;> kernel_rfl)
end Go.Am
namespace Go.Am
open Go Go.Proofs
set_option maxRecDepth 100000
abbrev Q0M.τ : Type := Qew 
def Q0M.c (k : Nat) {ρ : Type}  (K : Q0M.τ → Option ρ) : Option ρ :=
 K ((((), ((), ())), ()), ([], ()))
def Q0M (k : Nat)  : Option Q0M.τ := Q0M.c k  some
def Q0M.T : Q15 := ⟨[], [], 0⟩
def Q0M.os : List Out := [⟨.ret, [.auto 0], ⟨[.ptr 0 []], [.pair (.pair (.sfp 0 [0] 106) (.pair (.vbs 1) (.dat .unit))) (.dat .unit), .vec (.int .u8)]⟩⟩]
def Q0M.sem (k : Nat) : QS := Q17 Q0M.T Q0M.os fun x => Q0M k 
noncomputable def Q0M.ctx (k : Nat) : Ctx := ⟨Try.prog, gam []⟩
theorem Q0M.gok (k : Nat) : ∀ f, Qu Try.prog f ((Q0M.ctx k).Γ f) := Q0e
def Q0M.ann (k : Nat) : Ann := .nil
theorem Q0M.body (k : Nat) : Q18 (Q0M.ctx k) Try.f34 (Func.code Try.f34) (Q0M.ann k) Q0M.T Q0M.os (fun x K => Q0M.c k  K) := by
 intro ρ x K; kernel_rfl
theorem Q0M.sem_ok (k : Nat) : Qu Try.prog 34 (Q0M.sem k) :=
 Q0u (C := Q0M.ctx k) (Q0M.gok k) Try.mix (c := Func.code Try.f34) (ann := Q0M.ann k) (T := Q0M.T) (os := Q0M.os) (fun x K => Q0M.c k  K) Try.func34 (by kernel_rfl) (by kernel_rfl) Q2.nil (Q0M.body k) (by kernel_rfl) (by kernel_rfl) (by kernel_rfl)
abbrev Q0U.l0.σ : Type := Int × Int × Int × (List Int) × Unit
abbrev Q0U.l0.τ : Type := QeF 
def Q0U.l0.r (k : Nat) {ρ : Type} (x : Q0U.l0.σ) (kn : Q0U.l0.σ → Option ρ) (ke : Q0U.l0.τ → Option ρ) : Option ρ :=
 bif (decide (x.2.2.1 < x.2.1)) then (let v1 : Int := (IntKind.wrap IntKind.i64 ((8 : Int) * x.2.2.1))
 bif (decide ((0 : Int) ≤ v1)) then (let v2 : Int := (Q1Z IntKind.u64 x.1 v1)
 bif (decide (((0 : Int) ≤ x.2.2.1) ∧ (x.2.2.1 < (((List.length x.2.2.2.1) : Nat) : Int)))) then (let v3 : Int := (IntKind.wrap IntKind.i64 (x.2.2.1 + (1 : Int)))
 kn (x.1, (x.2.1, (v3, ((List.set x.2.2.2.1 (Int.toNat x.2.2.1) (IntKind.wrap IntKind.u8 v2)), ()))))) else (none)) else (none)) else (ke (x.2.2.2.1, ()))
def Q0U.l0 (k : Nat) : Nat → Q0U.l0.σ → Option Q0U.l0.τ := Q1f (Q0U.l0.r k)
def Q0U.l0.T : StT := ⟨.dat (.int .u64) :: us 4 ++ .vsl 0 :: us 4 ++ .dat (.int .i64) :: .dat (.int .i64) :: us 13, [.vec (.int .u8)]⟩
def Q0U.l0.os : List Out := [⟨(.exit 0), [.mask [5], .auto 0], ⟨us 5 ++ .vsl 0 :: us 19, [.vec (.int .u8)]⟩⟩]
def Q0U.c (k : Nat) {ρ : Type} (n : Int) (bytes : Int) (K : ByteArray × Unit → Option ρ) : Option ρ :=
 bif ((decide (((0 : Int) ≤ bytes) ∧ (bytes ≤ bytes))) && (Nat.ble ((Int.toNat bytes) * 1) 140737488355328)) then (let v0 : Int := (((List.length (List.replicate (Int.toNat bytes) (0 : Int))) : Nat) : Int)
 (Q0U.l0 k k (n, (v0, ((0 : Int), ((List.replicate (Int.toNat bytes) (0 : Int)), ()))))).bind fun t4 => K ((bytesOf t4.1), ())) else (none)
def Q0U (k : Nat) (n : Int) (bytes : Int) : Option (ByteArray × Unit) := Q0U.c k n bytes some
def Q0U.tin : List Ty := [(.int .u64), (.int .i64)]
def Q0U.tout : List Ty := [.str]
def Q0U.sem (k : Nat) : QS := Q16 Q0U.tin Q0U.tout fun x => Q0U k x.1 x.2.1
noncomputable def Q0U.ctx (k : Nat) : Ctx := ⟨Try.prog, gam []⟩
theorem Q0U.gok (k : Nat) : ∀ f, Qu Try.prog f ((Q0U.ctx k).Γ f) := Q0e
theorem Q0U.l0.round (k : Nat) : Q1j (Q0U.ctx k) (Q0O (Func.code Try.f65) [1, 1, 0, 1, 0, 0]) (.nil) Q0U.l0.T [.mask [0, 5, 10, 11], .auto 0] Q0U.l0.os (Q0U.l0.r k) := by
 intro ρ x kn ke; kernel_rfl
theorem Q0U.l0.ok (k : Nat) : StOK 0 Try.prog (.loop (Q0O (Func.code Try.f65) [1, 1, 0, 1, 0, 0])) (Q05 Q0U.l0.T Q0U.l0.os (Q0U.l0 k k)) :=
 Q1m (C := Q0U.ctx k) (Q0U.gok k) Try.mix Q2.nil (by kernel_rfl) (by kernel_rfl) (by kernel_rfl) (Q0U.l0.round k) k
def Q0U.ann (k : Nat) : Ann := .node [] none (.nil) (.node [] none (.nil) (.node [] none (.node [] none (.nil) (.node [] none (.node [.mask [0, 5, 10, 11], .auto 0] (some (Q05 Q0U.l0.T Q0U.l0.os (Q0U.l0 k k))) .nil .nil) (.nil))) (.nil)))
theorem Q0U.body (k : Nat) : Q1p (Q0U.ctx k) Try.f65 (Func.code Try.f65) (Q0U.ann k) Q0U.tin Q0U.tout (fun x K => Q0U.c k x.1 x.2.1 K) := by
 intro ρ x K; kernel_rfl
theorem Q0U.sem_ok (k : Nat) : Qu Try.prog 65 (Q0U.sem k) :=
 Q12 (C := Q0U.ctx k) (Q0U.gok k) Try.mix (c := Func.code Try.f65) (ann := Q0U.ann k) (tin := Q0U.tin) (tout := Q0U.tout) (fun x K => Q0U.c k x.1 x.2.1 K) Try.func65 (by kernel_rfl) (by kernel_rfl) (Q2.seq Q2.nil (Q2.seq Q2.nil (Q2.seq (Q2.seq Q2.nil (Q2.block (Q2.loop (by kernel_rfl) (Q0U.l0.ok k)))) Q2.nil))) (Q0U.body k)
abbrev Qo.τ : Type := (Int × Qez × (List Int) × Unit)
def Qo.c (k : Nat) {ρ : Type} (s : ByteArray) (b0 : Qez) (b1 : (List Int)) (K : Qo.τ → Option ρ) : Option ρ :=
 bif (Nat.ble (((List.length b1) + (List.length (QM s))) * 1) 140737488355328) then (K ((((ByteArray.size s) : Nat) : Int), ((((), ((), ())), ()), ((b1 ++ (QM s)), ())))) else (none)
def Qo (k : Nat) (s : ByteArray) (b0 : Qez) (b1 : (List Int)) : Option Qo.τ := Qo.c k s b0 b1 some
def Qo.T : Q15 := ⟨[.ptr 0 [0], .dat .str], [.pair (.pair (.sfp 0 [0] 106) (.pair (.vbs 1) (.dat .unit))) (.dat .unit), .vec (.int .u8)], 1⟩
def Qo.os : List Out := [⟨.ret, [.freeze (.slot 0), .auto 1], ⟨[.dat (.int .i64), .undef], [.pair (.pair (.sfp 0 [0] 106) (.pair (.vbs 1) (.dat .unit))) (.dat .unit), .vec (.int .u8)]⟩⟩]
def Qo.sem (k : Nat) : QS := Q17 Qo.T Qo.os fun x => Qo k x.1 x.2.1 x.2.2.1
noncomputable def Qo.ctx (k : Nat) : Ctx := ⟨Try.prog, gam [(83, (QcK 106 2))]⟩
theorem Qo.gok (k : Nat) : ∀ f, Qu Try.prog f ((Qo.ctx k).Γ f) := (Qf Bld.copyCheck Q0e)
def Qo.ann (k : Nat) : Ann := .nil
theorem Qo.body (k : Nat) : Q18 (Qo.ctx k) Try.f66 (Func.code Try.f66) (Qo.ann k) Qo.T Qo.os (fun x K => Qo.c k x.1 x.2.1 x.2.2.1 K) := by
 intro ρ x K; kernel_rfl
theorem Qo.sem_ok (k : Nat) : Qu Try.prog 66 (Qo.sem k) :=
 Q0u (C := Qo.ctx k) (Qo.gok k) Try.mix (c := Func.code Try.f66) (ann := Qo.ann k) (T := Qo.T) (os := Qo.os) (fun x K => Qo.c k x.1 x.2.1 x.2.2.1 K) Try.func66 (by kernel_rfl) (by kernel_rfl) Q2.nil (Qo.body k) (by kernel_rfl) (by kernel_rfl) (by kernel_rfl)
abbrev Q06.τ : Type := Qew 
def Q06.c (k : Nat) {ρ : Type} (s : ByteArray) (b0 : Qez) (b1 : (List Int)) (K : Q06.τ → Option ρ) : Option ρ :=
 (Qo k s (((), ((), ())), ()) b1).bind fun t0 => K ((((), ((), ())), ()), (t0.2.2.1, ()))
def Q06 (k : Nat) (s : ByteArray) (b0 : Qez) (b1 : (List Int)) : Option Q06.τ := Q06.c k s b0 b1 some
def Q06.T : Q15 := ⟨[.ptr 0 [], .dat .str], [.pair (.pair (.sfp 0 [0] 106) (.pair (.vbs 1) (.dat .unit))) (.dat .unit), .vec (.int .u8)], 1⟩
def Q06.os : List Out := [⟨.ret, [.auto 1], ⟨[], [.pair (.pair (.sfp 0 [0] 106) (.pair (.vbs 1) (.dat .unit))) (.dat .unit), .vec (.int .u8)]⟩⟩]
def Q06.sem (k : Nat) : QS := Q17 Q06.T Q06.os fun x => Q06 k x.1 x.2.1 x.2.2.1
noncomputable def Q06.ctx (k : Nat) : Ctx := ⟨Try.prog, gam [(66, (Qo.sem k))]⟩
theorem Q06.gok (k : Nat) : ∀ f, Qu Try.prog f ((Q06.ctx k).Γ f) := (Qf (Qo.sem_ok k) Q0e)
def Q06.ann (k : Nat) : Ann := .nil
theorem Q06.body (k : Nat) : Q18 (Q06.ctx k) Try.f37 (Func.code Try.f37) (Q06.ann k) Q06.T Q06.os (fun x K => Q06.c k x.1 x.2.1 x.2.2.1 K) := by
 intro ρ x K; kernel_rfl
theorem Q06.sem_ok (k : Nat) : Qu Try.prog 37 (Q06.sem k) :=
 Q0u (C := Q06.ctx k) (Q06.gok k) Try.mix (c := Func.code Try.f37) (ann := Q06.ann k) (T := Q06.T) (os := Q06.os) (fun x K => Q06.c k x.1 x.2.1 x.2.2.1 K) Try.func37 (by kernel_rfl) (by kernel_rfl) Q2.nil (Q06.body k) (by kernel_rfl) (by kernel_rfl) (by kernel_rfl)
abbrev Q0I.τ : Type := Qew 
def Q0I.c (k : Nat) {ρ : Type} (n : Int) (b0 : Qez) (b1 : (List Int)) (K : Q0I.τ → Option ρ) : Option ρ :=
 (Q0U k (IntKind.wrap IntKind.u64 n) (4 : Int)).bind fun t0 => (Q06 k t0.1 (((), ((), ())), ()) b1).bind fun t1 => K ((((), ((), ())), ()), (t1.2.1, ()))
def Q0I (k : Nat) (n : Int) (b0 : Qez) (b1 : (List Int)) : Option Q0I.τ := Q0I.c k n b0 b1 some
def Q0I.T : Q15 := ⟨[.ptr 0 [], .dat (.int .u32)], [.pair (.pair (.sfp 0 [0] 106) (.pair (.vbs 1) (.dat .unit))) (.dat .unit), .vec (.int .u8)], 1⟩
def Q0I.os : List Out := [⟨.ret, [.auto 1], ⟨[], [.pair (.pair (.sfp 0 [0] 106) (.pair (.vbs 1) (.dat .unit))) (.dat .unit), .vec (.int .u8)]⟩⟩]
def Q0I.sem (k : Nat) : QS := Q17 Q0I.T Q0I.os fun x => Q0I k x.1 x.2.1 x.2.2.1
noncomputable def Q0I.ctx (k : Nat) : Ctx := ⟨Try.prog, gam [(65, (Q0U.sem k)), (37, (Q06.sem k))]⟩
theorem Q0I.gok (k : Nat) : ∀ f, Qu Try.prog f ((Q0I.ctx k).Γ f) := (Qf (Q0U.sem_ok k) (Qf (Q06.sem_ok k) Q0e))
def Q0I.ann (k : Nat) : Ann := .nil
theorem Q0I.body (k : Nat) : Q18 (Q0I.ctx k) Try.f35 (Func.code Try.f35) (Q0I.ann k) Q0I.T Q0I.os (fun x K => Q0I.c k x.1 x.2.1 x.2.2.1 K) := by
 intro ρ x K; kernel_rfl
theorem Q0I.sem_ok (k : Nat) : Qu Try.prog 35 (Q0I.sem k) :=
 Q0u (C := Q0I.ctx k) (Q0I.gok k) Try.mix (c := Func.code Try.f35) (ann := Q0I.ann k) (T := Q0I.T) (os := Q0I.os) (fun x K => Q0I.c k x.1 x.2.1 x.2.2.1 K) Try.func35 (by kernel_rfl) (by kernel_rfl) Q2.nil (Q0I.body k) (by kernel_rfl) (by kernel_rfl) (by kernel_rfl)
abbrev Q0x.τ : Type := Qew 
def Q0x.c (k : Nat) {ρ : Type} (n : Int) (b0 : Qez) (b1 : (List Int)) (K : Q0x.τ → Option ρ) : Option ρ :=
 (Q0U k n (8 : Int)).bind fun t0 => (Q06 k t0.1 (((), ((), ())), ()) b1).bind fun t1 => K ((((), ((), ())), ()), (t1.2.1, ()))
def Q0x (k : Nat) (n : Int) (b0 : Qez) (b1 : (List Int)) : Option Q0x.τ := Q0x.c k n b0 b1 some
def Q0x.T : Q15 := ⟨[.ptr 0 [], .dat (.int .u64)], [.pair (.pair (.sfp 0 [0] 106) (.pair (.vbs 1) (.dat .unit))) (.dat .unit), .vec (.int .u8)], 1⟩
def Q0x.os : List Out := [⟨.ret, [.auto 1], ⟨[], [.pair (.pair (.sfp 0 [0] 106) (.pair (.vbs 1) (.dat .unit))) (.dat .unit), .vec (.int .u8)]⟩⟩]
def Q0x.sem (k : Nat) : QS := Q17 Q0x.T Q0x.os fun x => Q0x k x.1 x.2.1 x.2.2.1
noncomputable def Q0x.ctx (k : Nat) : Ctx := ⟨Try.prog, gam [(65, (Q0U.sem k)), (37, (Q06.sem k))]⟩
theorem Q0x.gok (k : Nat) : ∀ f, Qu Try.prog f ((Q0x.ctx k).Γ f) := (Qf (Q0U.sem_ok k) (Qf (Q06.sem_ok k) Q0e))
def Q0x.ann (k : Nat) : Ann := .nil
theorem Q0x.body (k : Nat) : Q18 (Q0x.ctx k) Try.f36 (Func.code Try.f36) (Q0x.ann k) Q0x.T Q0x.os (fun x K => Q0x.c k x.1 x.2.1 x.2.2.1 K) := by
 intro ρ x K; kernel_rfl
theorem Q0x.sem_ok (k : Nat) : Qu Try.prog 36 (Q0x.sem k) :=
 Q0u (C := Q0x.ctx k) (Q0x.gok k) Try.mix (c := Func.code Try.f36) (ann := Q0x.ann k) (T := Q0x.T) (os := Q0x.os) (fun x K => Q0x.c k x.1 x.2.1 x.2.2.1 K) Try.func36 (by kernel_rfl) (by kernel_rfl) Q2.nil (Q0x.body k) (by kernel_rfl) (by kernel_rfl) (by kernel_rfl)
abbrev Q0n.τ : Type := (ByteArray × Unit)
def Q0n.c (k : Nat) {ρ : Type} (b0 : Qez) (b1 : (List Int)) (K : Q0n.τ → Option ρ) : Option ρ :=
 bif (Nat.ble (List.length b1) 9223372036854775807) then (K ((bytesOf b1), ())) else (none)
def Q0n (k : Nat) (b0 : Qez) (b1 : (List Int)) : Option Q0n.τ := Q0n.c k b0 b1 some
def Q0n.T : Q15 := ⟨[.ptr 0 []], [.pair (.pair (.sfp 0 [0] 106) (.pair (.vbs 1) (.dat .unit))) (.dat .unit), .vec (.int .u8)], 1⟩
def Q0n.os : List Out := [⟨.ret, [.freeze (.slot 0), .auto 1], ⟨[.dat .str], [.undef]⟩⟩]
def Q0n.sem (k : Nat) : QS := Q17 Q0n.T Q0n.os fun x => Q0n k x.1 x.2.1
noncomputable def Q0n.ctx (k : Nat) : Ctx := ⟨Try.prog, gam [(67, QaE)]⟩
theorem Q0n.gok (k : Nat) : ∀ f, Qu Try.prog f ((Q0n.ctx k).Γ f) := (Qf Bld.string Q0e)
def Q0n.ann (k : Nat) : Ann := .nil
theorem Q0n.body (k : Nat) : Q18 (Q0n.ctx k) Try.f38 (Func.code Try.f38) (Q0n.ann k) Q0n.T Q0n.os (fun x K => Q0n.c k x.1 x.2.1 K) := by
 intro ρ x K; kernel_rfl
theorem Q0n.sem_ok (k : Nat) : Qu Try.prog 38 (Q0n.sem k) :=
 Q0u (C := Q0n.ctx k) (Q0n.gok k) Try.mix (c := Func.code Try.f38) (ann := Q0n.ann k) (T := Q0n.T) (os := Q0n.os) (fun x K => Q0n.c k x.1 x.2.1 K) Try.func38 (by kernel_rfl) (by kernel_rfl) Q2.nil (Q0n.body k) (by kernel_rfl) (by kernel_rfl) (by kernel_rfl)
def Q0Q.c (k : Nat) {ρ : Type} (n : Int) (K : ByteArray × Unit → Option ρ) : Option ρ :=
 (Q0M k ).bind fun t0 => (Q0x k n (((), ((), ())), ()) t0.2.1).bind fun t1 => (Q0n k (((), ((), ())), ()) t1.2.1).bind fun t2 => K (t2.1, ())
def Q0Q (k : Nat) (n : Int) : Option (ByteArray × Unit) := Q0Q.c k n some
def Q0Q.tin : List Ty := [(.int .u64)]
def Q0Q.tout : List Ty := [.str]
def Q0Q.sem (k : Nat) : QS := Q16 Q0Q.tin Q0Q.tout fun x => Q0Q k x.1
noncomputable def Q0Q.ctx (k : Nat) : Ctx := ⟨Try.prog, gam [(34, (Q0M.sem k)), (36, (Q0x.sem k)), (38, (Q0n.sem k))]⟩
theorem Q0Q.gok (k : Nat) : ∀ f, Qu Try.prog f ((Q0Q.ctx k).Γ f) := (Qf (Q0M.sem_ok k) (Qf (Q0x.sem_ok k) (Qf (Q0n.sem_ok k) Q0e)))
def Q0Q.ann (k : Nat) : Ann := .nil
theorem Q0Q.body (k : Nat) : Q1p (Q0Q.ctx k) Try.f40 (Func.code Try.f40) (Q0Q.ann k) Q0Q.tin Q0Q.tout (fun x K => Q0Q.c k x.1 K) := by
 intro ρ x K; kernel_rfl
theorem Q0Q.sem_ok (k : Nat) : Qu Try.prog 40 (Q0Q.sem k) :=
 Q12 (C := Q0Q.ctx k) (Q0Q.gok k) Try.mix (c := Func.code Try.f40) (ann := Q0Q.ann k) (tin := Q0Q.tin) (tout := Q0Q.tout) (fun x K => Q0Q.c k x.1 K) Try.func40 (by kernel_rfl) (by kernel_rfl) Q2.nil (Q0Q.body k)
def Q1b.c (k : Nat) {ρ : Type}  (K : (List Int) × Unit → Option ρ) : Option ρ :=
 let v0 : (List Int) := (List.set (List.set (List.set (List.set (List.set (List.set (List.set (List.set (List.replicate 8 (0 : Int)) 0 (1779033703 : Int)) 1 (3144134277 : Int)) 2 (1013904242 : Int)) 3 (2773480762 : Int)) 4 (1359893119 : Int)) 5 (2600822924 : Int)) 6 (528734635 : Int)) 7 (1541459225 : Int))
 K (v0, ())
def Q1b (k : Nat)  : Option QeF := Q1b.c k  some
def Q1b.tin : List Ty := []
def Q1b.tout : List Ty := [QeC]
def Q1b.sem (k : Nat) : QS := Q16 Q1b.tin Q1b.tout fun x => Q1b k 
noncomputable def Q1b.ctx (k : Nat) : Ctx := ⟨Try.prog, gam []⟩
theorem Q1b.gok (k : Nat) : ∀ f, Qu Try.prog f ((Q1b.ctx k).Γ f) := Q0e
def Q1b.ann (k : Nat) : Ann := .nil
theorem Q1b.body (k : Nat) : Q1p (Q1b.ctx k) Try.f98 (Func.code Try.f98) (Q1b.ann k) Q1b.tin Q1b.tout (fun x K => Q1b.c k  K) := by
 intro ρ x K; kernel_rfl
theorem Q1b.sem_ok (k : Nat) : Qu Try.prog 98 (Q1b.sem k) :=
 Q12 (C := Q1b.ctx k) (Q1b.gok k) Try.mix (c := Func.code Try.f98) (ann := Q1b.ann k) (tin := Q1b.tin) (tout := Q1b.tout) (fun x K => Q1b.c k  K) Try.func98 (by kernel_rfl) (by kernel_rfl) Q2.nil (Q1b.body k)
abbrev Q1l.τ : Type := (Qey × Unit)
def Q1l.c (k : Nat) {ρ : Type}  (K : Q1l.τ → Option ρ) : Option ρ :=
 (Q1b k ).bind fun t0 => K ((t0.1, ((), ((0 : Int), ()))), ())
def Q1l (k : Nat)  : Option Q1l.τ := Q1l.c k  some
def Q1l.T : Q15 := ⟨[], [], 0⟩
def Q1l.os : List Out := [⟨.ret, [.auto 0], ⟨[.ptr 0 []], [.pair (.dat QeC) (.pair (.nils) (.dat QeA))]⟩⟩]
def Q1l.sem (k : Nat) : QS := Q17 Q1l.T Q1l.os fun x => Q1l k 
noncomputable def Q1l.ctx (k : Nat) : Ctx := ⟨Try.prog, gam [(98, (Q1b.sem k))]⟩
theorem Q1l.gok (k : Nat) : ∀ f, Qu Try.prog f ((Q1l.ctx k).Γ f) := (Qf (Q1b.sem_ok k) Q0e)
def Q1l.ann (k : Nat) : Ann := .nil
theorem Q1l.body (k : Nat) : Q18 (Q1l.ctx k) Try.f91 (Func.code Try.f91) (Q1l.ann k) Q1l.T Q1l.os (fun x K => Q1l.c k  K) := by
 intro ρ x K; kernel_rfl
theorem Q1l.sem_ok (k : Nat) : Qu Try.prog 91 (Q1l.sem k) :=
 Q0u (C := Q1l.ctx k) (Q1l.gok k) Try.mix (c := Func.code Try.f91) (ann := Q1l.ann k) (T := Q1l.T) (os := Q1l.os) (fun x K => Q1l.c k  K) Try.func91 (by kernel_rfl) (by kernel_rfl) Q2.nil (Q1l.body k) (by kernel_rfl) (by kernel_rfl) (by kernel_rfl)
def QW.c (k : Nat) {ρ : Type} (x_0 : Int) (k_1 : Int) (K : Int × Unit → Option ρ) : Option ρ :=
 let v0 : Int := (Q10 BinOp.and IntKind.u64 (IntKind.wrap IntKind.u64 k_1) (31 : Int))
 bif (decide ((0 : Int) ≤ v0)) then (let v1 : Int := (IntKind.wrap IntKind.u64 ((32 : Int) - v0))
 bif (decide ((0 : Int) ≤ v1)) then (let v2 : Int := (Q10 BinOp.or IntKind.u32 (Q2P IntKind.u32 x_0 v0) (Q1Z IntKind.u32 x_0 v1))
 K (v2, ())) else (none)) else (none)
def QW (k : Nat) (x_0 : Int) (k_1 : Int) : Option (Int × Unit) := QW.c k x_0 k_1 some
def QW.tin : List Ty := [(.int .u32), (.int .i64)]
def QW.tout : List Ty := [(.int .u32)]
def QW.sem (k : Nat) : QS := Q16 QW.tin QW.tout fun x => QW k x.1 x.2.1
noncomputable def QW.ctx (k : Nat) : Ctx := ⟨Try.prog, gam []⟩
theorem QW.gok (k : Nat) : ∀ f, Qu Try.prog f ((QW.ctx k).Γ f) := Q0e
def QW.ann (k : Nat) : Ann := .nil
theorem QW.body (k : Nat) : Q1p (QW.ctx k) Try.f107 (Func.code Try.f107) (QW.ann k) QW.tin QW.tout (fun x K => QW.c k x.1 x.2.1 K) := by
 intro ρ x K; kernel_rfl
theorem QW.sem_ok (k : Nat) : Qu Try.prog 107 (QW.sem k) :=
 Q12 (C := QW.ctx k) (QW.gok k) Try.mix (c := Func.code Try.f107) (ann := QW.ann k) (tin := QW.tin) (tout := QW.tout) (fun x K => QW.c k x.1 x.2.1 K) Try.func107 (by kernel_rfl) (by kernel_rfl) Q2.nil (QW.body k)
def Q0W.c (k : Nat) {ρ : Type} (x_0 : Int) (n : Int) (K : Int × Unit → Option ρ) : Option ρ :=
 let v0 : Int := (IntKind.wrap IntKind.i64 ((0 : Int) - n))
 (QW k x_0 v0).bind fun t1 => K (t1.1, ())
def Q0W (k : Nat) (x_0 : Int) (n : Int) : Option (Int × Unit) := Q0W.c k x_0 n some
def Q0W.tin : List Ty := [(.int .u32), (.int .i64)]
def Q0W.tout : List Ty := [(.int .u32)]
def Q0W.sem (k : Nat) : QS := Q16 Q0W.tin Q0W.tout fun x => Q0W k x.1 x.2.1
noncomputable def Q0W.ctx (k : Nat) : Ctx := ⟨Try.prog, gam [(107, (QW.sem k))]⟩
theorem Q0W.gok (k : Nat) : ∀ f, Qu Try.prog f ((Q0W.ctx k).Γ f) := (Qf (QW.sem_ok k) Q0e)
def Q0W.ann (k : Nat) : Ann := .nil
theorem Q0W.body (k : Nat) : Q1p (Q0W.ctx k) Try.f106 (Func.code Try.f106) (Q0W.ann k) Q0W.tin Q0W.tout (fun x K => Q0W.c k x.1 x.2.1 K) := by
 intro ρ x K; kernel_rfl
theorem Q0W.sem_ok (k : Nat) : Qu Try.prog 106 (Q0W.sem k) :=
 Q12 (C := Q0W.ctx k) (Q0W.gok k) Try.mix (c := Func.code Try.f106) (ann := Q0W.ann k) (tin := Q0W.tin) (tout := Q0W.tout) (fun x K => Q0W.c k x.1 x.2.1 K) Try.func106 (by kernel_rfl) (by kernel_rfl) Q2.nil (Q0W.body k)
abbrev Ql.l1.σ : Type := Int × Int × (Nat × Nat) × Int × Int × (List Int) × (List Int) × (List Int) × Unit
abbrev Ql.l1.τ : Type := (Int × (List Int) × (List Int) × (List Int) × Unit)
def Ql.l1.r (k : Nat) {ρ : Type} (x : Ql.l1.σ) (kn : Ql.l1.σ → Option ρ) (ke : Ql.l1.τ → Option ρ) : Option ρ :=
 bif (decide (x.2.2.2.2.1 < x.2.2.2.1)) then (bif (decide (((0 : Int) ≤ x.2.2.2.2.1) ∧ (x.2.2.2.2.1 < ((x.2.2.1.2 : Nat) : Int)))) then (let v4 : Int := (List.getD x.2.2.2.2.2.1 (x.2.2.1.1 + (Int.toNat x.2.2.2.2.1)) (0 : Int))
 bif (decide (((0 : Int) ≤ x.1) ∧ (x.1 < ((64 : Nat) : Int)))) then (let v5 : Int := (List.getD x.2.2.2.2.2.2.2.1 (Int.toNat x.1) (0 : Int))
 let v6 : Int := (Q2P IntKind.u32 v5 (8 : Int))
 bif (decide (((0 : Int) ≤ x.1) ∧ (x.1 < ((64 : Nat) : Int)))) then (let v7 : Int := (IntKind.wrap IntKind.i64 (x.2.2.2.2.1 + (1 : Int)))
 kn (x.1, (x.2.1, ((x.2.2.1.1, x.2.2.1.2), (x.2.2.2.1, (v7, (x.2.2.2.2.2.1, (x.2.2.2.2.2.2.1, ((List.set x.2.2.2.2.2.2.2.1 (Int.toNat x.1) (Q10 BinOp.or IntKind.u32 v6 (IntKind.wrap IntKind.u32 v4))), ()))))))))) else (none)) else (none)) else (none)) else (ke (x.2.1, (x.2.2.2.2.2.1, (x.2.2.2.2.2.2.1, (x.2.2.2.2.2.2.2.1, ())))))
def Ql.l1 (k : Nat) : Nat → Ql.l1.σ → Option Ql.l1.τ := Q1f (Ql.l1.r k)
def Ql.l1.T : StT := ⟨.ptr 0 [] :: us 1 ++ .ptr 1 [] :: .ptr 2 [] :: .dat (.int .i64) :: us 7 ++ .dat (.int .i64) :: us 9 ++ .slr 0 [] :: .dat (.int .i64) :: .dat (.int .i64) :: us 58, [.dat QeD, .dat QeB, .dat QeB]⟩
def Ql.l1.os : List Out := [⟨(.exit 2), [.mask [0, 2, 3, 12], .auto 1], ⟨.ptr 0 [] :: us 1 ++ .ptr 1 [] :: .ptr 2 [] :: us 8 ++ .dat (.int .i64) :: us 70, [.dat QeD, .dat QeB, .dat QeB]⟩⟩]
abbrev Ql.l0.σ : Type := Int × (List Int) × (List Int) × (List Int) × Unit
abbrev Ql.l0.τ : Type := Qex 
def Ql.l0.r (k : Nat) {ρ : Type} (x : Ql.l0.σ) (kn : Ql.l0.σ → Option ρ) (ke : Ql.l0.τ → Option ρ) : Option ρ :=
 bif (decide (x.1 < (16 : Int))) then (let v0 : Int := (IntKind.wrap IntKind.i64 ((4 : Int) * x.1))
 let v1 : Int := (IntKind.wrap IntKind.i64 (x.1 + (1 : Int)))
 let v2 : Int := (IntKind.wrap IntKind.i64 ((4 : Int) * v1))
 bif (decide (((0 : Int) ≤ v0) ∧ ((v0 ≤ v2) ∧ (v2 ≤ ((64 : Nat) : Int))))) then (let v3 : Int := (((Int.toNat (v2 - v0)) : Nat) : Int)
 (Ql.l1 k k (x.1, (x.1, (((Int.toNat v0), (Int.toNat (v2 - v0))), (v3, ((0 : Int), (x.2.1, (x.2.2.1, (x.2.2.2.1, ()))))))))).bind fun t8 => let v9 : Int := (IntKind.wrap IntKind.i64 (t8.1 + (1 : Int)))
 kn (v9, (t8.2.1, (t8.2.2.1, (t8.2.2.2.1, ()))))) else (none)) else (ke (x.2.1, (x.2.2.1, (x.2.2.2.1, ()))))
def Ql.l0 (k : Nat) : Nat → Ql.l0.σ → Option Ql.l0.τ := Q1f (Ql.l0.r k)
def Ql.l0.T : StT := ⟨.ptr 0 [] :: us 1 ++ .ptr 1 [] :: .ptr 2 [] :: us 8 ++ .dat (.int .i64) :: us 70, [.dat QeD, .dat QeB, .dat QeB]⟩
def Ql.l0.os : List Out := [⟨(.exit 0), [.mask [2, 3], .auto 1], ⟨us 2 ++ .ptr 1 [] :: .ptr 2 [] :: us 79, [.dat QeD, .dat QeB, .dat QeB]⟩⟩]
abbrev Ql.l2.σ : Type := Int × (List Int) × (List Int) × (List Int) × Unit
abbrev Ql.l2.τ : Type := Qex 
def Ql.l2.r (k : Nat) {ρ : Type} (x : Ql.l2.σ) (kn : Ql.l2.σ → Option ρ) (ke : Ql.l2.τ → Option ρ) : Option ρ :=
 bif (decide (x.1 < (64 : Int))) then (let v11 : Int := (IntKind.wrap IntKind.i64 (x.1 - (2 : Int)))
 bif (decide (((0 : Int) ≤ v11) ∧ (v11 < ((64 : Nat) : Int)))) then (let v12 : Int := (List.getD x.2.2.2.1 (Int.toNat v11) (0 : Int))
 let v13 : Int := (IntKind.wrap IntKind.i64 (x.1 - (15 : Int)))
 bif (decide (((0 : Int) ≤ v13) ∧ (v13 < ((64 : Nat) : Int)))) then (let v14 : Int := (List.getD x.2.2.2.1 (Int.toNat v13) (0 : Int))
 (Q0W k v12 (17 : Int)).bind fun t15 => (Q0W k v12 (19 : Int)).bind fun t16 => let v17 : Int := (Q10 BinOp.xor IntKind.u32 t15.1 t16.1)
 let v18 : Int := (Q1Z IntKind.u32 v12 (10 : Int))
 (Q0W k v14 (7 : Int)).bind fun t19 => (Q0W k v14 (18 : Int)).bind fun t20 => let v21 : Int := (Q10 BinOp.xor IntKind.u32 t19.1 t20.1)
 let v22 : Int := (Q1Z IntKind.u32 v14 (3 : Int))
 let v23 : Int := (IntKind.wrap IntKind.i64 (x.1 - (7 : Int)))
 bif (decide (((0 : Int) ≤ v23) ∧ (v23 < ((64 : Nat) : Int)))) then (let v24 : Int := (List.getD x.2.2.2.1 (Int.toNat v23) (0 : Int))
 let v25 : Int := (IntKind.wrap IntKind.u32 ((Q10 BinOp.xor IntKind.u32 v17 v18) + v24))
 let v26 : Int := (IntKind.wrap IntKind.u32 (v25 + (Q10 BinOp.xor IntKind.u32 v21 v22)))
 let v27 : Int := (IntKind.wrap IntKind.i64 (x.1 - (16 : Int)))
 bif (decide (((0 : Int) ≤ v27) ∧ (v27 < ((64 : Nat) : Int)))) then (let v28 : Int := (List.getD x.2.2.2.1 (Int.toNat v27) (0 : Int))
 let v29 : Int := (IntKind.wrap IntKind.u32 (v26 + v28))
 bif (decide (((0 : Int) ≤ x.1) ∧ (x.1 < ((64 : Nat) : Int)))) then (let v30 : Int := (IntKind.wrap IntKind.i64 (x.1 + (1 : Int)))
 kn (v30, (x.2.1, (x.2.2.1, ((List.set x.2.2.2.1 (Int.toNat x.1) v29), ()))))) else (none)) else (none)) else (none)) else (none)) else (none)) else (ke (x.2.1, (x.2.2.1, (x.2.2.2.1, ()))))
def Ql.l2 (k : Nat) : Nat → Ql.l2.σ → Option Ql.l2.τ := Q1f (Ql.l2.r k)
def Ql.l2.T : StT := ⟨us 2 ++ .ptr 1 [] :: .ptr 2 [] :: us 3 ++ .dat (.int .i64) :: us 75, [.dat QeD, .dat QeB, .dat QeB]⟩
def Ql.l2.os : List Out := [⟨(.exit 4), [.mask [2, 3], .auto 1], ⟨us 2 ++ .ptr 1 [] :: .ptr 2 [] :: us 79, [.dat QeD, .dat QeB, .dat QeB]⟩⟩]
abbrev Ql.τ : Type := ((List Int) × (List Int) × Unit)
def Ql.c (k : Nat) {ρ : Type} (b0 : (List Int)) (K : Ql.τ → Option ρ) : Option ρ :=
 (Ql.l0 k k ((0 : Int), (b0, ((List.replicate 64 (0 : Int)), ((List.replicate 64 (0 : Int)), ()))))).bind fun t10 => (Ql.l2 k k ((16 : Int), (t10.1, (t10.2.1, (t10.2.2.1, ()))))).bind fun t31 => let v32 : (List Int) := t31.2.2.1
 K (v32, (t31.1, ()))
def Ql (k : Nat) (b0 : (List Int)) : Option Ql.τ := Ql.c k b0 some
def Ql.T : Q15 := ⟨[.ptr 0 []], [.dat QeD], 1⟩
def Ql.os : List Out := [⟨.ret, [.freeze (.slot 0), .auto 1], ⟨[.dat QeB], [.dat QeD]⟩⟩]
def Ql.sem (k : Nat) : QS := Q17 Ql.T Ql.os fun x => Ql k x.1
noncomputable def Ql.ctx (k : Nat) : Ctx := ⟨Try.prog, gam [(106, (Q0W.sem k))]⟩
theorem Ql.gok (k : Nat) : ∀ f, Qu Try.prog f ((Ql.ctx k).Γ f) := (Qf (Q0W.sem_ok k) Q0e)
theorem Ql.l1.round (k : Nat) : Q1j (Ql.ctx k) (Q0O (Func.code Try.f104) [1, 1, 0, 1, 0, 0, 1, 1, 0, 0, 1, 1, 0, 0]) (.nil) Ql.l1.T [.mask [0, 2, 3, 4, 12, 22, 23, 24], .auto 1] Ql.l1.os (Ql.l1.r k) := by
 intro ρ x kn ke; kernel_rfl
theorem Ql.l1.ok (k : Nat) : StOK 1 Try.prog (.loop (Q0O (Func.code Try.f104) [1, 1, 0, 1, 0, 0, 1, 1, 0, 0, 1, 1, 0, 0])) (Q05 Ql.l1.T Ql.l1.os (Ql.l1 k k)) :=
 Q1m (C := Ql.ctx k) (Ql.gok k) Try.mix Q2.nil (by kernel_rfl) (by kernel_rfl) (by kernel_rfl) (Ql.l1.round k) k
theorem Ql.l0.round (k : Nat) : Q1j (Ql.ctx k) (Q0O (Func.code Try.f104) [1, 1, 0, 1, 0, 0]) (.node [] none (.nil) (.node [] none (.nil) (.node [] none (.node [] none (.node [] none (.nil) (.node [] none (.nil) (.node [] none (.node [.mask [0, 2, 3, 4, 12, 22, 23, 24], .auto 1] (some (Q05 Ql.l1.T Ql.l1.os (Ql.l1 k k))) .nil .nil) (.nil)))) (.nil)) (.nil)))) Ql.l0.T [.mask [0, 2, 3, 12], .auto 1] Ql.l0.os (Ql.l0.r k) := by
 intro ρ x kn ke; kernel_rfl
theorem Ql.l0.ok (k : Nat) : StOK 1 Try.prog (.loop (Q0O (Func.code Try.f104) [1, 1, 0, 1, 0, 0])) (Q05 Ql.l0.T Ql.l0.os (Ql.l0 k k)) :=
 Q1m (C := Ql.ctx k) (Ql.gok k) Try.mix (Q2.seq Q2.nil (Q2.seq Q2.nil (Q2.seq (Q2.block (Q2.seq Q2.nil (Q2.seq Q2.nil (Q2.block (Q2.loop (by kernel_rfl) (Ql.l1.ok k)))))) Q2.nil))) (by kernel_rfl) (by kernel_rfl) (by kernel_rfl) (Ql.l0.round k) k
theorem Ql.l2.round (k : Nat) : Q1j (Ql.ctx k) (Q0O (Func.code Try.f104) [1, 1, 1, 0, 1, 0, 0]) (.nil) Ql.l2.T [.mask [2, 3, 7], .auto 1] Ql.l2.os (Ql.l2.r k) := by
 intro ρ x kn ke; kernel_rfl
theorem Ql.l2.ok (k : Nat) : StOK 1 Try.prog (.loop (Q0O (Func.code Try.f104) [1, 1, 1, 0, 1, 0, 0])) (Q05 Ql.l2.T Ql.l2.os (Ql.l2 k k)) :=
 Q1m (C := Ql.ctx k) (Ql.gok k) Try.mix Q2.nil (by kernel_rfl) (by kernel_rfl) (by kernel_rfl) (Ql.l2.round k) k
def Ql.ann (k : Nat) : Ann := .node [] none (.nil) (.node [] none (.nil) (.node [] none (.node [] none (.nil) (.node [] none (.node [.mask [0, 2, 3, 12], .auto 1] (some (Q05 Ql.l0.T Ql.l0.os (Ql.l0 k k))) .nil .nil) (.nil))) (.node [] none (.node [] none (.nil) (.node [] none (.node [.mask [2, 3, 7], .auto 1] (some (Q05 Ql.l2.T Ql.l2.os (Ql.l2 k k))) .nil .nil) (.nil))) (.nil))))
theorem Ql.body (k : Nat) : Q18 (Ql.ctx k) Try.f104 (Func.code Try.f104) (Ql.ann k) Ql.T Ql.os (fun x K => Ql.c k x.1 K) := by
 intro ρ x K; kernel_rfl
theorem Ql.sem_ok (k : Nat) : Qu Try.prog 104 (Ql.sem k) :=
 Q0u (C := Ql.ctx k) (Ql.gok k) Try.mix (c := Func.code Try.f104) (ann := Ql.ann k) (T := Ql.T) (os := Ql.os) (fun x K => Ql.c k x.1 K) Try.func104 (by kernel_rfl) (by kernel_rfl) (Q2.seq Q2.nil (Q2.seq Q2.nil (Q2.seq (Q2.seq Q2.nil (Q2.block (Q2.loop (by kernel_rfl) (Ql.l0.ok k)))) (Q2.seq (Q2.seq Q2.nil (Q2.block (Q2.loop (by kernel_rfl) (Ql.l2.ok k)))) Q2.nil)))) (Ql.body k) (by kernel_rfl) (by kernel_rfl) (by kernel_rfl)
abbrev Q0R.τ : Type := QeF 
def Q0R.c (k : Nat) {ρ : Type}  (K : Q0R.τ → Option ρ) : Option ρ :=
 let v0 : (List Int) := (List.set (List.set (List.set (List.set (List.set (List.set (List.set (List.set (List.set (List.set (List.set (List.set (List.set (List.set (List.set (List.set (List.set (List.set (List.set (List.set (List.set (List.set (List.set (List.set (List.set (List.set (List.set (List.set (List.set (List.set (List.set (List.set (List.set (List.set (List.set (List.set (List.set (List.set (List.set (List.set (List.set (List.set (List.set (List.set (List.set (List.set (List.set (List.set (List.set (List.set (List.set (List.set (List.set (List.set (List.set (List.set (List.set (List.set (List.set (List.set (List.set (List.set (List.set (List.set (List.replicate 64 (0 : Int)) 0 (1116352408 : Int)) 1 (1899447441 : Int)) 2 (3049323471 : Int)) 3 (3921009573 : Int)) 4 (961987163 : Int)) 5 (1508970993 : Int)) 6 (2453635748 : Int)) 7 (2870763221 : Int)) 8 (3624381080 : Int)) 9 (310598401 : Int)) 10 (607225278 : Int)) 11 (1426881987 : Int)) 12 (1925078388 : Int)) 13 (2162078206 : Int)) 14 (2614888103 : Int)) 15 (3248222580 : Int)) 16 (3835390401 : Int)) 17 (4022224774 : Int)) 18 (264347078 : Int)) 19 (604807628 : Int)) 20 (770255983 : Int)) 21 (1249150122 : Int)) 22 (1555081692 : Int)) 23 (1996064986 : Int)) 24 (2554220882 : Int)) 25 (2821834349 : Int)) 26 (2952996808 : Int)) 27 (3210313671 : Int)) 28 (3336571891 : Int)) 29 (3584528711 : Int)) 30 (113926993 : Int)) 31 (338241895 : Int)) 32 (666307205 : Int)) 33 (773529912 : Int)) 34 (1294757372 : Int)) 35 (1396182291 : Int)) 36 (1695183700 : Int)) 37 (1986661051 : Int)) 38 (2177026350 : Int)) 39 (2456956037 : Int)) 40 (2730485921 : Int)) 41 (2820302411 : Int)) 42 (3259730800 : Int)) 43 (3345764771 : Int)) 44 (3516065817 : Int)) 45 (3600352804 : Int)) 46 (4094571909 : Int)) 47 (275423344 : Int)) 48 (430227734 : Int)) 49 (506948616 : Int)) 50 (659060556 : Int)) 51 (883997877 : Int)) 52 (958139571 : Int)) 53 (1322822218 : Int)) 54 (1537002063 : Int)) 55 (1747873779 : Int)) 56 (1955562222 : Int)) 57 (2024104815 : Int)) 58 (2227730452 : Int)) 59 (2361852424 : Int)) 60 (2428436474 : Int)) 61 (2756734187 : Int)) 62 (3204031479 : Int)) 63 (3329325298 : Int))
 K (v0, ())
def Q0R (k : Nat)  : Option Q0R.τ := Q0R.c k  some
def Q0R.T : Q15 := ⟨[], [], 0⟩
def Q0R.os : List Out := [⟨.ret, [.auto 0], ⟨[.ptr 0 []], [.dat QeB]⟩⟩]
def Q0R.sem (k : Nat) : QS := Q17 Q0R.T Q0R.os fun x => Q0R k 
noncomputable def Q0R.ctx (k : Nat) : Ctx := ⟨Try.prog, gam []⟩
theorem Q0R.gok (k : Nat) : ∀ f, Qu Try.prog f ((Q0R.ctx k).Γ f) := Q0e
def Q0R.ann (k : Nat) : Ann := .nil
theorem Q0R.body (k : Nat) : Q18 (Q0R.ctx k) Try.f105 (Func.code Try.f105) (Q0R.ann k) Q0R.T Q0R.os (fun x K => Q0R.c k  K) := by
 intro ρ x K; kernel_rfl
theorem Q0R.sem_ok (k : Nat) : Qu Try.prog 105 (Q0R.sem k) :=
 Q0u (C := Q0R.ctx k) (Q0R.gok k) Try.mix (c := Func.code Try.f105) (ann := Q0R.ann k) (T := Q0R.T) (os := Q0R.os) (fun x K => Q0R.c k  K) Try.func105 (by kernel_rfl) (by kernel_rfl) Q2.nil (Q0R.body k) (by kernel_rfl) (by kernel_rfl) (by kernel_rfl)
abbrev Q04.l0.σ : Type := Int × (List Int) × (List Int) × (List Int) × (List Int) × (List Int) × Unit
abbrev Q04.l0.τ : Type := Qex 
def Q04.l0.r (k : Nat) {ρ : Type} (x : Q04.l0.σ) (kn : Q04.l0.σ → Option ρ) (ke : Q04.l0.τ → Option ρ) : Option ρ :=
 bif (decide (x.1 < (64 : Int))) then (let v2 : Int := (List.getD x.2.2.2.2.2.1 0 (0 : Int))
 let v3 : Int := (List.getD x.2.2.2.2.2.1 4 (0 : Int))
 (Q0W k v3 (6 : Int)).bind fun t4 => (Q0W k v3 (11 : Int)).bind fun t5 => let v6 : Int := (Q10 BinOp.xor IntKind.u32 t4.1 t5.1)
 (Q0W k v3 (25 : Int)).bind fun t7 => let v8 : Int := (Q10 BinOp.xor IntKind.u32 v6 t7.1)
 (Q0W k v2 (2 : Int)).bind fun t9 => (Q0W k v2 (13 : Int)).bind fun t10 => let v11 : Int := (Q10 BinOp.xor IntKind.u32 t9.1 t10.1)
 (Q0W k v2 (22 : Int)).bind fun t12 => let v13 : Int := (Q10 BinOp.xor IntKind.u32 v11 t12.1)
 let v14 : Int := (List.getD x.2.2.2.2.2.1 5 (0 : Int))
 let v15 : Int := (List.getD x.2.2.2.2.2.1 6 (0 : Int))
 let v16 : Int := (Q10 BinOp.xor IntKind.u32 (Q10 BinOp.and IntKind.u32 v3 v14) (Q10 BinOp.and IntKind.u32 (notI IntKind.u32 v3) v15))
 let v17 : Int := (List.getD x.2.2.2.2.2.1 1 (0 : Int))
 let v18 : Int := (List.getD x.2.2.2.2.2.1 2 (0 : Int))
 let v19 : Int := (Q10 BinOp.xor IntKind.u32 (Q10 BinOp.and IntKind.u32 v2 v17) (Q10 BinOp.and IntKind.u32 v2 v18))
 let v20 : Int := (List.getD x.2.2.2.2.2.1 1 (0 : Int))
 let v21 : Int := (List.getD x.2.2.2.2.2.1 2 (0 : Int))
 let v22 : Int := (Q10 BinOp.xor IntKind.u32 v19 (Q10 BinOp.and IntKind.u32 v20 v21))
 let v23 : Int := (List.getD x.2.2.2.2.2.1 7 (0 : Int))
 let v24 : Int := (IntKind.wrap IntKind.u32 (v23 + v8))
 let v25 : Int := (IntKind.wrap IntKind.u32 (v24 + v16))
 bif (decide (((0 : Int) ≤ x.1) ∧ (x.1 < ((64 : Nat) : Int)))) then (let v26 : Int := (List.getD x.2.2.2.2.1 (Int.toNat x.1) (0 : Int))
 let v27 : Int := (IntKind.wrap IntKind.u32 (v25 + v26))
 bif (decide (((0 : Int) ≤ x.1) ∧ (x.1 < ((64 : Nat) : Int)))) then (let v28 : Int := (List.getD x.2.2.2.1 (Int.toNat x.1) (0 : Int))
 let v29 : Int := (IntKind.wrap IntKind.u32 (v27 + v28))
 let v30 : Int := (IntKind.wrap IntKind.u32 (v29 + v13))
 let v31 : Int := (IntKind.wrap IntKind.u32 (v30 + v22))
 let v32 : Int := (List.getD x.2.2.2.2.2.1 0 (0 : Int))
 let v33 : Int := (List.getD x.2.2.2.2.2.1 1 (0 : Int))
 let v34 : Int := (List.getD x.2.2.2.2.2.1 2 (0 : Int))
 let v35 : Int := (List.getD x.2.2.2.2.2.1 3 (0 : Int))
 let v36 : Int := (IntKind.wrap IntKind.u32 (v35 + v29))
 let v37 : Int := (List.getD x.2.2.2.2.2.1 4 (0 : Int))
 let v38 : Int := (List.getD x.2.2.2.2.2.1 5 (0 : Int))
 let v39 : Int := (List.getD x.2.2.2.2.2.1 6 (0 : Int))
 let v40 : (List Int) := (List.set (List.set (List.set (List.set (List.set (List.set (List.set (List.set (List.replicate 8 (0 : Int)) 0 v31) 1 v32) 2 v33) 3 v34) 4 v36) 5 v37) 6 v38) 7 v39)
 let v41 : Int := (IntKind.wrap IntKind.i64 (x.1 + (1 : Int)))
 kn (v41, (x.2.1, (x.2.2.1, (x.2.2.2.1, (x.2.2.2.2.1, (v40, ()))))))) else (none)) else (none)) else (ke (x.2.1, (x.2.2.1, (x.2.2.2.2.2.1, ()))))
def Q04.l0 (k : Nat) : Nat → Q04.l0.σ → Option Q04.l0.τ := Q1f (Q04.l0.r k)
def Q04.l0.T : StT := ⟨us 2 ++ .ptr 0 [] :: us 1 ++ .ptr 1 [] :: .ptr 2 [] :: .ptr 3 [] :: .ptr 4 [] :: us 12 ++ .dat (.int .i64) :: us 99, [.dat QeC, .dat QeC, .dat QeB, .dat QeB, .dat QeC]⟩
def Q04.l0.os : List Out := [⟨(.exit 0), [.mask [2, 4, 7], .auto 0], ⟨us 2 ++ .ptr 0 [] :: us 1 ++ .ptr 1 [] :: us 2 ++ .ptr 2 [] :: us 112, [.dat QeC, .dat QeC, .dat QeC]⟩⟩]
abbrev Q04.l1.σ : Type := Int × (List Int) × (List Int) × (List Int) × Unit
abbrev Q04.l1.τ : Type := ((List Int) × (List Int) × Unit)
def Q04.l1.r (k : Nat) {ρ : Type} (x : Q04.l1.σ) (kn : Q04.l1.σ → Option ρ) (ke : Q04.l1.τ → Option ρ) : Option ρ :=
 bif (decide (x.1 < (8 : Int))) then (bif (decide (((0 : Int) ≤ x.1) ∧ (x.1 < ((8 : Nat) : Int)))) then (let v43 : Int := (List.getD x.2.2.2.1 (Int.toNat x.1) (0 : Int))
 bif (decide (((0 : Int) ≤ x.1) ∧ (x.1 < ((8 : Nat) : Int)))) then (let v44 : Int := (List.getD x.2.1 (Int.toNat x.1) (0 : Int))
 let v45 : Int := (IntKind.wrap IntKind.u32 (v43 + v44))
 bif (decide (((0 : Int) ≤ x.1) ∧ (x.1 < ((8 : Nat) : Int)))) then (let v46 : Int := (IntKind.wrap IntKind.i64 (x.1 + (1 : Int)))
 kn (v46, (x.2.1, (x.2.2.1, ((List.set x.2.2.2.1 (Int.toNat x.1) v45), ()))))) else (none)) else (none)) else (none)) else (ke (x.2.2.1, (x.2.2.2.1, ())))
def Q04.l1 (k : Nat) : Nat → Q04.l1.σ → Option Q04.l1.τ := Q1f (Q04.l1.r k)
def Q04.l1.T : StT := ⟨us 2 ++ .ptr 0 [] :: us 1 ++ .ptr 1 [] :: us 2 ++ .ptr 2 [] :: us 99 ++ .dat (.int .i64) :: us 12, [.dat QeC, .dat QeC, .dat QeC]⟩
def Q04.l1.os : List Out := [⟨(.exit 2), [.mask [4, 7], .auto 0], ⟨us 4 ++ .ptr 0 [] :: us 2 ++ .ptr 1 [] :: us 112, [.dat QeC, .dat QeC]⟩⟩]
def Q04.c (k : Nat) {ρ : Type} (x_0 : (List Int)) (block : (List Int)) (K : (List Int) × Unit → Option ρ) : Option ρ :=
 (Ql k block).bind fun t0 => (Q0R k ).bind fun t1 => (Q04.l0 k k ((0 : Int), (x_0, ((List.replicate 8 (0 : Int)), (t0.1, (t1.1, (x_0, ()))))))).bind fun t42 => (Q04.l1 k k ((0 : Int), (t42.1, (t42.2.1, (t42.2.2.1, ()))))).bind fun t47 => let v48 : (List Int) := t47.2.1
 K (v48, ())
def Q04 (k : Nat) (x_0 : (List Int)) (block : (List Int)) : Option QeF := Q04.c k x_0 block some
def Q04.tin : List Ty := [QeC, QeD]
def Q04.tout : List Ty := [QeC]
def Q04.sem (k : Nat) : QS := Q16 Q04.tin Q04.tout fun x => Q04 k x.1 x.2.1
noncomputable def Q04.ctx (k : Nat) : Ctx := ⟨Try.prog, gam [(104, (Ql.sem k)), (105, (Q0R.sem k)), (106, (Q0W.sem k))]⟩
theorem Q04.gok (k : Nat) : ∀ f, Qu Try.prog f ((Q04.ctx k).Γ f) := (Qf (Ql.sem_ok k) (Qf (Q0R.sem_ok k) (Qf (Q0W.sem_ok k) Q0e)))
theorem Q04.l0.round (k : Nat) : Q1j (Q04.ctx k) (Q0O (Func.code Try.f99) [1, 1, 1, 0, 1, 0, 0]) (.nil) Q04.l0.T [.mask [2, 4, 5, 6, 7, 20], .auto 0] Q04.l0.os (Q04.l0.r k) := by
 intro ρ x kn ke; kernel_rfl
theorem Q04.l0.ok (k : Nat) : StOK 0 Try.prog (.loop (Q0O (Func.code Try.f99) [1, 1, 1, 0, 1, 0, 0])) (Q05 Q04.l0.T Q04.l0.os (Q04.l0 k k)) :=
 Q1m (C := Q04.ctx k) (Q04.gok k) Try.mix Q2.nil (by kernel_rfl) (by kernel_rfl) (by kernel_rfl) (Q04.l0.round k) k
theorem Q04.l1.round (k : Nat) : Q1j (Q04.ctx k) (Q0O (Func.code Try.f99) [1, 1, 1, 1, 0, 1, 0, 0]) (.nil) Q04.l1.T [.mask [2, 4, 7, 107], .auto 0] Q04.l1.os (Q04.l1.r k) := by
 intro ρ x kn ke; kernel_rfl
theorem Q04.l1.ok (k : Nat) : StOK 0 Try.prog (.loop (Q0O (Func.code Try.f99) [1, 1, 1, 1, 0, 1, 0, 0])) (Q05 Q04.l1.T Q04.l1.os (Q04.l1 k k)) :=
 Q1m (C := Q04.ctx k) (Q04.gok k) Try.mix Q2.nil (by kernel_rfl) (by kernel_rfl) (by kernel_rfl) (Q04.l1.round k) k
def Q04.ann (k : Nat) : Ann := .node [] none (.nil) (.node [] none (.nil) (.node [] none (.nil) (.node [] none (.node [] none (.nil) (.node [] none (.node [.mask [2, 4, 5, 6, 7, 20], .auto 0] (some (Q05 Q04.l0.T Q04.l0.os (Q04.l0 k k))) .nil .nil) (.nil))) (.node [] none (.node [] none (.nil) (.node [] none (.node [.mask [2, 4, 7, 107], .auto 0] (some (Q05 Q04.l1.T Q04.l1.os (Q04.l1 k k))) .nil .nil) (.nil))) (.nil)))))
theorem Q04.body (k : Nat) : Q1p (Q04.ctx k) Try.f99 (Func.code Try.f99) (Q04.ann k) Q04.tin Q04.tout (fun x K => Q04.c k x.1 x.2.1 K) := by
 intro ρ x K; kernel_rfl
theorem Q04.sem_ok (k : Nat) : Qu Try.prog 99 (Q04.sem k) :=
 Q12 (C := Q04.ctx k) (Q04.gok k) Try.mix (c := Func.code Try.f99) (ann := Q04.ann k) (tin := Q04.tin) (tout := Q04.tout) (fun x K => Q04.c k x.1 x.2.1 K) Try.func99 (by kernel_rfl) (by kernel_rfl) (Q2.seq Q2.nil (Q2.seq Q2.nil (Q2.seq Q2.nil (Q2.seq (Q2.seq Q2.nil (Q2.block (Q2.loop (by kernel_rfl) (Q04.l0.ok k)))) (Q2.seq (Q2.seq Q2.nil (Q2.block (Q2.loop (by kernel_rfl) (Q04.l1.ok k)))) Q2.nil))))) (Q04.body k)
abbrev Qh.l0.σ : Type := Qey × (List Int) × Unit
abbrev Qh.l0.τ : Type := Qev 
def Qh.l0.r (k : Nat) {ρ : Type} (x : Qh.l0.σ) (kn : Qh.l0.σ → Option ρ) (ke : Qh.l0.τ → Option ρ) : Option ρ :=
 let v2 : Int := (((List.length x.2.1) : Nat) : Int)
 bif (decide (v2 ≥ (64 : Int))) then (let v3 : (List Int) := x.1.1
 bif (decide (64 ≤ (List.length x.2.1))) then (let v4 : (List Int) := (List.take 64 (List.drop 0 x.2.1))
 (Q04 k v3 v4).bind fun t5 => bif (decide (((0 : Int) ≤ (64 : Int)) ∧ (((64 : Int) ≤ (((List.length x.2.1) : Nat) : Int)) ∧ ((((List.length x.2.1) : Nat) : Int) ≤ (((List.length x.2.1) : Nat) : Int))))) then (kn ((t5.1, ((), (x.1.2.2.1, ()))), ((List.take (Int.toNat ((((List.length x.2.1) : Nat) : Int) - (64 : Int))) (List.drop 64 x.2.1)), ()))) else (none)) else (none)) else (ke ((x.1.1, ((), (x.1.2.2.1, ()))), (x.2.1, ())))
def Qh.l0 (k : Nat) : Nat → Qh.l0.σ → Option Qh.l0.τ := Q1f (Qh.l0.r k)
def Qh.l0.T : StT := ⟨.ptr 0 [] :: us 52, [.pair (.dat QeC) (.pair (.vsl 1) (.dat QeA)), .vec (.int .u8)]⟩
def Qh.l0.os : List Out := [⟨(.exit 0), [.mask [], .auto 1], ⟨us 53, [.pair (.dat QeC) (.pair (.vsl 1) (.dat QeA)), .vec (.int .u8)]⟩⟩]
abbrev Qh.τ : Type := Qev 
def Qh.c (k : Nat) {ρ : Type} (s : ByteArray) (b0 : Qey) (K : Qh.τ → Option ρ) : Option ρ :=
 let v0 : Int := b0.2.2.1
 let v1 : Int := (IntKind.wrap IntKind.u64 (v0 + (IntKind.wrap IntKind.u64 (((ByteArray.size s) : Nat) : Int))))
 bif (Nat.ble ((List.length (QM s)) * 1) 140737488355328) then ((Qh.l0 k k ((b0.1, ((), (v1, ()))), ((QM s), ()))).bind fun t6 => K ((t6.1.1, ((), (t6.1.2.2.1, ()))), (t6.2.1, ()))) else (none)
def Qh (k : Nat) (s : ByteArray) (b0 : Qey) : Option Qh.τ := Qh.c k s b0 some
def Qh.T : Q15 := ⟨[.ptr 0 [], .dat .str], [.pair (.dat QeC) (.pair (.nils) (.dat QeA))], 1⟩
def Qh.os : List Out := [⟨.ret, [.auto 1], ⟨[], [.pair (.dat QeC) (.pair (.vsl 1) (.dat QeA)), .vec (.int .u8)]⟩⟩]
def Qh.sem (k : Nat) : QS := Q17 Qh.T Qh.os fun x => Qh k x.1 x.2.1
noncomputable def Qh.ctx (k : Nat) : Ctx := ⟨Try.prog, gam [(99, (Q04.sem k))]⟩
theorem Qh.gok (k : Nat) : ∀ f, Qu Try.prog f ((Qh.ctx k).Γ f) := (Qf (Q04.sem_ok k) Q0e)
theorem Qh.l0.round (k : Nat) : Q1j (Qh.ctx k) (Q0O (Func.code Try.f92) [1, 1, 1, 0, 0]) (.nil) Qh.l0.T [.mask [0], .auto 1] Qh.l0.os (Qh.l0.r k) := by
 intro ρ x kn ke; kernel_rfl
theorem Qh.l0.ok (k : Nat) : StOK 1 Try.prog (.loop (Q0O (Func.code Try.f92) [1, 1, 1, 0, 0])) (Q05 Qh.l0.T Qh.l0.os (Qh.l0 k k)) :=
 Q1m (C := Qh.ctx k) (Qh.gok k) Try.mix Q2.nil (by kernel_rfl) (by kernel_rfl) (by kernel_rfl) (Qh.l0.round k) k
def Qh.ann (k : Nat) : Ann := .node [] none (.nil) (.node [] none (.nil) (.node [] none (.nil) (.node [] none (.node [.mask [0], .auto 1] (some (Q05 Qh.l0.T Qh.l0.os (Qh.l0 k k))) .nil .nil) (.nil))))
theorem Qh.body (k : Nat) : Q18 (Qh.ctx k) Try.f92 (Func.code Try.f92) (Qh.ann k) Qh.T Qh.os (fun x K => Qh.c k x.1 x.2.1 K) := by
 intro ρ x K; kernel_rfl
theorem Qh.sem_ok (k : Nat) : Qu Try.prog 92 (Qh.sem k) :=
 Q0u (C := Qh.ctx k) (Qh.gok k) Try.mix (c := Func.code Try.f92) (ann := Qh.ann k) (T := Qh.T) (os := Qh.os) (fun x K => Qh.c k x.1 x.2.1 K) Try.func92 (by kernel_rfl) (by kernel_rfl) (Q2.seq Q2.nil (Q2.seq Q2.nil (Q2.seq Q2.nil (Q2.block (Q2.loop (by kernel_rfl) (Qh.l0.ok k)))))) (Qh.body k) (by kernel_rfl) (by kernel_rfl) (by kernel_rfl)
abbrev Q0k.τ : Type := (Qey × (List Int) × Qey × (List Int) × Unit)
def Q0k.c (k : Nat) {ρ : Type} (b0 : Qey) (b1 : (List Int)) (K : Q0k.τ → Option ρ) : Option ρ :=
 let v0 : (List Int) := b0.1
 bif (Nat.ble ((List.length b1) * 1) 140737488355328) then (let v1 : Int := b0.2.2.1
 K ((b0.1, ((), (b0.2.2.1, ()))), (b1, ((v0, ((), (v1, ()))), (b1, ()))))) else (none)
def Q0k (k : Nat) (b0 : Qey) (b1 : (List Int)) : Option Q0k.τ := Q0k.c k b0 b1 some
def Q0k.T : Q15 := ⟨[.ptr 0 []], [.pair (.dat QeC) (.pair (.vsl 1) (.dat QeA)), .vec (.int .u8)], 1⟩
def Q0k.os : List Out := [⟨.ret, [.auto 1], ⟨[.ptr 2 []], [.pair (.dat QeC) (.pair (.vsl 1) (.dat QeA)), .vec (.int .u8), .pair (.dat QeC) (.pair (.vsl 3) (.dat QeA)), .vec (.int .u8)]⟩⟩]
def Q0k.sem (k : Nat) : QS := Q17 Q0k.T Q0k.os fun x => Q0k k x.1 x.2.1
noncomputable def Q0k.ctx (k : Nat) : Ctx := ⟨Try.prog, gam []⟩
theorem Q0k.gok (k : Nat) : ∀ f, Qu Try.prog f ((Q0k.ctx k).Γ f) := Q0e
def Q0k.ann (k : Nat) : Ann := .nil
theorem Q0k.body (k : Nat) : Q18 (Q0k.ctx k) Try.f100 (Func.code Try.f100) (Q0k.ann k) Q0k.T Q0k.os (fun x K => Q0k.c k x.1 x.2.1 K) := by
 intro ρ x K; kernel_rfl
theorem Q0k.sem_ok (k : Nat) : Qu Try.prog 100 (Q0k.sem k) :=
 Q0u (C := Q0k.ctx k) (Q0k.gok k) Try.mix (c := Func.code Try.f100) (ann := Q0k.ann k) (T := Q0k.T) (os := Q0k.os) (fun x K => Q0k.c k x.1 x.2.1 K) Try.func100 (by kernel_rfl) (by kernel_rfl) Q2.nil (Q0k.body k) (by kernel_rfl) (by kernel_rfl) (by kernel_rfl)
abbrev Q0Y.l0.σ : Type := Int × Int × (List Int) × Unit
abbrev Q0Y.l0.τ : Type := QeF 
def Q0Y.l0.r (k : Nat) {ρ : Type} (x : Q0Y.l0.σ) (kn : Q0Y.l0.σ → Option ρ) (ke : Q0Y.l0.τ → Option ρ) : Option ρ :=
 bif (decide (x.2.1 < (8 : Int))) then (let v5 : Int := (Q2P IntKind.u64 x.1 (3 : Int))
 let v6 : Int := (IntKind.wrap IntKind.i64 ((7 : Int) - x.2.1))
 let v7 : Int := (IntKind.wrap IntKind.i64 ((8 : Int) * v6))
 bif (decide ((0 : Int) ≤ v7)) then (bif (Nat.ble (((List.length x.2.2.1) + (List.length (List.set (List.replicate 1 (0 : Int)) 0 (IntKind.wrap IntKind.u8 (Q1Z IntKind.u64 v5 v7))))) * 1) 140737488355328) then (let v8 : Int := (IntKind.wrap IntKind.i64 (x.2.1 + (1 : Int)))
 kn (x.1, (v8, ((x.2.2.1 ++ (List.set (List.replicate 1 (0 : Int)) 0 (IntKind.wrap IntKind.u8 (Q1Z IntKind.u64 v5 v7)))), ())))) else (none)) else (none)) else (ke (x.2.2.1, ()))
def Q0Y.l0 (k : Nat) : Nat → Q0Y.l0.σ → Option Q0Y.l0.τ := Q1f (Q0Y.l0.r k)
def Q0Y.l0.T : StT := ⟨.dat (.int .u64) :: us 3 ++ .vsl 0 :: us 14 ++ .dat (.int .i64) :: us 15, [.vec (.int .u8)]⟩
def Q0Y.l0.os : List Out := [⟨(.exit 0), [.mask [4], .auto 0], ⟨us 4 ++ .vsl 0 :: us 30, [.vec (.int .u8)]⟩⟩]
def Q0Y.c (k : Nat) {ρ : Type} (n : Int) (K : ByteArray × Unit → Option ρ) : Option ρ :=
 let v0 : Int := (IntKind.wrap IntKind.i64 (Int.tmod n (64 : Int)))
 let v1 : Int := (IntKind.wrap IntKind.i64 ((119 : Int) - v0))
 let v2 : Int := (IntKind.wrap IntKind.i64 ((1 : Int) + (Int.tmod v1 (64 : Int))))
 let v3 : Int := (IntKind.wrap IntKind.i64 ((1 : Int) + (Int.tmod v1 (64 : Int))))
 let v4 : Int := (IntKind.wrap IntKind.i64 (v3 + (8 : Int)))
 bif ((decide (((0 : Int) ≤ v2) ∧ (v2 ≤ v4))) && (Nat.ble ((Int.toNat v4) * 1) 140737488355328)) then (bif (decide (((0 : Int) ≤ (0 : Int)) ∧ ((0 : Int) < (((List.length (List.replicate (Int.toNat v2) (0 : Int))) : Nat) : Int)))) then ((Q0Y.l0 k k (n, ((0 : Int), ((List.set (List.replicate (Int.toNat v2) (0 : Int)) 0 (128 : Int)), ())))).bind fun t9 => K ((bytesOf t9.1), ())) else (none)) else (none)
def Q0Y (k : Nat) (n : Int) : Option (ByteArray × Unit) := Q0Y.c k n some
def Q0Y.tin : List Ty := [(.int .u64)]
def Q0Y.tout : List Ty := [.str]
def Q0Y.sem (k : Nat) : QS := Q16 Q0Y.tin Q0Y.tout fun x => Q0Y k x.1
noncomputable def Q0Y.ctx (k : Nat) : Ctx := ⟨Try.prog, gam []⟩
theorem Q0Y.gok (k : Nat) : ∀ f, Qu Try.prog f ((Q0Y.ctx k).Γ f) := Q0e
theorem Q0Y.l0.round (k : Nat) : Q1j (Q0Y.ctx k) (Q0O (Func.code Try.f101) [1, 1, 1, 1, 0, 1, 0, 0]) (.nil) Q0Y.l0.T [.mask [0, 4, 19], .auto 0] Q0Y.l0.os (Q0Y.l0.r k) := by
 intro ρ x kn ke; kernel_rfl
theorem Q0Y.l0.ok (k : Nat) : StOK 0 Try.prog (.loop (Q0O (Func.code Try.f101) [1, 1, 1, 1, 0, 1, 0, 0])) (Q05 Q0Y.l0.T Q0Y.l0.os (Q0Y.l0 k k)) :=
 Q1m (C := Q0Y.ctx k) (Q0Y.gok k) Try.mix Q2.nil (by kernel_rfl) (by kernel_rfl) (by kernel_rfl) (Q0Y.l0.round k) k
def Q0Y.ann (k : Nat) : Ann := .node [] none (.nil) (.node [] none (.nil) (.node [] none (.nil) (.node [] none (.nil) (.node [] none (.node [] none (.nil) (.node [] none (.node [.mask [0, 4, 19], .auto 0] (some (Q05 Q0Y.l0.T Q0Y.l0.os (Q0Y.l0 k k))) .nil .nil) (.nil))) (.nil)))))
theorem Q0Y.body (k : Nat) : Q1p (Q0Y.ctx k) Try.f101 (Func.code Try.f101) (Q0Y.ann k) Q0Y.tin Q0Y.tout (fun x K => Q0Y.c k x.1 K) := by
 intro ρ x K; kernel_rfl
theorem Q0Y.sem_ok (k : Nat) : Qu Try.prog 101 (Q0Y.sem k) :=
 Q12 (C := Q0Y.ctx k) (Q0Y.gok k) Try.mix (c := Func.code Try.f101) (ann := Q0Y.ann k) (tin := Q0Y.tin) (tout := Q0Y.tout) (fun x K => Q0Y.c k x.1 K) Try.func101 (by kernel_rfl) (by kernel_rfl) (Q2.seq Q2.nil (Q2.seq Q2.nil (Q2.seq Q2.nil (Q2.seq Q2.nil (Q2.seq (Q2.seq Q2.nil (Q2.block (Q2.loop (by kernel_rfl) (Q0Y.l0.ok k)))) Q2.nil))))) (Q0Y.body k)
abbrev Qd.l0.σ : Type := Qey × (List Int) × Unit
abbrev Qd.l0.τ : Type := Qev 
def Qd.l0.r (k : Nat) {ρ : Type} (x : Qd.l0.σ) (kn : Qd.l0.σ → Option ρ) (ke : Qd.l0.τ → Option ρ) : Option ρ :=
 let v2 : Int := (((List.length x.2.1) : Nat) : Int)
 bif (decide (v2 ≥ (64 : Int))) then (let v3 : (List Int) := x.1.1
 bif (decide (64 ≤ (List.length x.2.1))) then (let v4 : (List Int) := (List.take 64 (List.drop 0 x.2.1))
 (Q04 k v3 v4).bind fun t5 => bif (decide (((0 : Int) ≤ (64 : Int)) ∧ (((64 : Int) ≤ (((List.length x.2.1) : Nat) : Int)) ∧ ((((List.length x.2.1) : Nat) : Int) ≤ (((List.length x.2.1) : Nat) : Int))))) then (kn ((t5.1, ((), (x.1.2.2.1, ()))), ((List.take (Int.toNat ((((List.length x.2.1) : Nat) : Int) - (64 : Int))) (List.drop 64 x.2.1)), ()))) else (none)) else (none)) else (ke ((x.1.1, ((), (x.1.2.2.1, ()))), (x.2.1, ())))
def Qd.l0 (k : Nat) : Nat → Qd.l0.σ → Option Qd.l0.τ := Q1f (Qd.l0.r k)
def Qd.l0.T : StT := ⟨.ptr 0 [] :: us 52, [.pair (.dat QeC) (.pair (.vsl 1) (.dat QeA)), .vec (.int .u8)]⟩
def Qd.l0.os : List Out := [⟨(.exit 0), [.mask [], .auto 1], ⟨us 53, [.pair (.dat QeC) (.pair (.vsl 1) (.dat QeA)), .vec (.int .u8)]⟩⟩]
abbrev Qd.τ : Type := Qev 
def Qd.c (k : Nat) {ρ : Type} (s : ByteArray) (b0 : Qey) (b1 : (List Int)) (K : Qd.τ → Option ρ) : Option ρ :=
 let v0 : Int := b0.2.2.1
 let v1 : Int := (IntKind.wrap IntKind.u64 (v0 + (IntKind.wrap IntKind.u64 (((ByteArray.size s) : Nat) : Int))))
 bif (Nat.ble (((List.length b1) + (List.length (QM s))) * 1) 140737488355328) then ((Qd.l0 k k ((b0.1, ((), (v1, ()))), ((b1 ++ (QM s)), ()))).bind fun t6 => K ((t6.1.1, ((), (t6.1.2.2.1, ()))), (t6.2.1, ()))) else (none)
def Qd (k : Nat) (s : ByteArray) (b0 : Qey) (b1 : (List Int)) : Option Qd.τ := Qd.c k s b0 b1 some
def Qd.T : Q15 := ⟨[.ptr 0 [], .dat .str], [.pair (.dat QeC) (.pair (.vsl 1) (.dat QeA)), .vec (.int .u8)], 1⟩
def Qd.os : List Out := [⟨.ret, [.auto 1], ⟨[], [.pair (.dat QeC) (.pair (.vsl 1) (.dat QeA)), .vec (.int .u8)]⟩⟩]
def Qd.sem (k : Nat) : QS := Q17 Qd.T Qd.os fun x => Qd k x.1 x.2.1 x.2.2.1
noncomputable def Qd.ctx (k : Nat) : Ctx := ⟨Try.prog, gam [(99, (Q04.sem k))]⟩
theorem Qd.gok (k : Nat) : ∀ f, Qu Try.prog f ((Qd.ctx k).Γ f) := (Qf (Q04.sem_ok k) Q0e)
theorem Qd.l0.round (k : Nat) : Q1j (Qd.ctx k) (Q0O (Func.code Try.f92) [1, 1, 1, 0, 0]) (.nil) Qd.l0.T [.mask [0], .auto 1] Qd.l0.os (Qd.l0.r k) := by
 intro ρ x kn ke; kernel_rfl
theorem Qd.l0.ok (k : Nat) : StOK 1 Try.prog (.loop (Q0O (Func.code Try.f92) [1, 1, 1, 0, 0])) (Q05 Qd.l0.T Qd.l0.os (Qd.l0 k k)) :=
 Q1m (C := Qd.ctx k) (Qd.gok k) Try.mix Q2.nil (by kernel_rfl) (by kernel_rfl) (by kernel_rfl) (Qd.l0.round k) k
def Qd.ann (k : Nat) : Ann := .node [] none (.nil) (.node [] none (.nil) (.node [] none (.nil) (.node [] none (.node [.mask [0], .auto 1] (some (Q05 Qd.l0.T Qd.l0.os (Qd.l0 k k))) .nil .nil) (.nil))))
theorem Qd.body (k : Nat) : Q18 (Qd.ctx k) Try.f92 (Func.code Try.f92) (Qd.ann k) Qd.T Qd.os (fun x K => Qd.c k x.1 x.2.1 x.2.2.1 K) := by
 intro ρ x K; kernel_rfl
theorem Qd.sem_ok (k : Nat) : Qu Try.prog 92 (Qd.sem k) :=
 Q0u (C := Qd.ctx k) (Qd.gok k) Try.mix (c := Func.code Try.f92) (ann := Qd.ann k) (T := Qd.T) (os := Qd.os) (fun x K => Qd.c k x.1 x.2.1 x.2.2.1 K) Try.func92 (by kernel_rfl) (by kernel_rfl) (Q2.seq Q2.nil (Q2.seq Q2.nil (Q2.seq Q2.nil (Q2.block (Q2.loop (by kernel_rfl) (Qd.l0.ok k)))))) (Qd.body k) (by kernel_rfl) (by kernel_rfl) (by kernel_rfl)
abbrev Qb.l1.σ : Type := Int × Int × (List Int) × Int × Int × Qey × (List Int) × (List Int) × (List Int) × Unit
abbrev Qb.l1.τ : Type := ((List Int) × Int × Qey × (List Int) × (List Int) × (List Int) × Unit)
def Qb.l1.r (k : Nat) {ρ : Type} (x : Qb.l1.σ) (kn : Qb.l1.σ → Option ρ) (ke : Qb.l1.τ → Option ρ) : Option ρ :=
 bif (decide (x.2.2.2.2.1 < (4 : Int))) then (let v6 : Int := (IntKind.wrap IntKind.i64 ((4 : Int) * x.1))
 let v7 : Int := (IntKind.wrap IntKind.i64 (v6 + x.2.2.2.2.1))
 let v8 : Int := (IntKind.wrap IntKind.i64 ((3 : Int) - x.2.2.2.2.1))
 let v9 : Int := (IntKind.wrap IntKind.i64 ((8 : Int) * v8))
 bif (decide ((0 : Int) ≤ v9)) then (let v10 : Int := (Q1Z IntKind.u32 x.2.1 v9)
 bif (decide (((0 : Int) ≤ v7) ∧ (v7 < ((32 : Nat) : Int)))) then (let v11 : Int := (IntKind.wrap IntKind.i64 (x.2.2.2.2.1 + (1 : Int)))
 kn (x.1, (x.2.1, (x.2.2.1, (x.2.2.2.1, (v11, ((x.2.2.2.2.2.1.1, ((), (x.2.2.2.2.2.1.2.2.1, ()))), (x.2.2.2.2.2.2.1, (x.2.2.2.2.2.2.2.1, ((List.set x.2.2.2.2.2.2.2.2.1 (Int.toNat v7) (IntKind.wrap IntKind.u8 v10)), ())))))))))) else (none)) else (none)) else (ke (x.2.2.1, (x.2.2.2.1, ((x.2.2.2.2.2.1.1, ((), (x.2.2.2.2.2.1.2.2.1, ()))), (x.2.2.2.2.2.2.1, (x.2.2.2.2.2.2.2.1, (x.2.2.2.2.2.2.2.2.1, ())))))))
def Qb.l1 (k : Nat) : Nat → Qb.l1.σ → Option Qb.l1.τ := Q1f (Qb.l1.r k)
def Qb.l1.T : StT := ⟨us 2 ++ .ptr 2 [] :: us 1 ++ .ptr 3 [] :: .dat (.int .i64) :: .dat (.int .u32) :: us 17 ++ .dat QeC :: .dat (.int .i64) :: us 3 ++ .dat (.int .i64) :: us 16, [.pair (.dat QeC) (.pair (.vsl 1) (.dat QeA)), .vec (.int .u8), .dat QeE, .dat QeE]⟩
def Qb.l1.os : List Out := [⟨(.exit 2), [.mask [2, 4, 24, 25], .auto 1], ⟨us 2 ++ .ptr 2 [] :: us 1 ++ .ptr 3 [] :: us 19 ++ .dat QeC :: .dat (.int .i64) :: us 20, [.pair (.dat QeC) (.pair (.vsl 1) (.dat QeA)), .vec (.int .u8), .dat QeE, .dat QeE]⟩⟩]
abbrev Qb.l0.σ : Type := (List Int) × Int × Qey × (List Int) × (List Int) × (List Int) × Unit
abbrev Qb.l0.τ : Type := (Qey × (List Int) × (List Int) × (List Int) × Unit)
def Qb.l0.r (k : Nat) {ρ : Type} (x : Qb.l0.σ) (kn : Qb.l0.σ → Option ρ) (ke : Qb.l0.τ → Option ρ) : Option ρ :=
 bif (decide (x.2.1 < (8 : Int))) then (bif (decide (((0 : Int) ≤ x.2.1) ∧ (x.2.1 < ((8 : Nat) : Int)))) then (let v5 : Int := (List.getD x.1 (Int.toNat x.2.1) (0 : Int))
 (Qb.l1 k k (x.2.1, (v5, (x.1, (x.2.1, ((0 : Int), ((x.2.2.1.1, ((), (x.2.2.1.2.2.1, ()))), (x.2.2.2.1, (x.2.2.2.2.1, (x.2.2.2.2.2.1, ())))))))))).bind fun t12 => let v13 : Int := (IntKind.wrap IntKind.i64 (t12.2.1 + (1 : Int)))
 kn (t12.1, (v13, ((t12.2.2.1.1, ((), (t12.2.2.1.2.2.1, ()))), (t12.2.2.2.1, (t12.2.2.2.2.1, (t12.2.2.2.2.2.1, ()))))))) else (none)) else (ke ((x.2.2.1.1, ((), (x.2.2.1.2.2.1, ()))), (x.2.2.2.1, (x.2.2.2.2.1, (x.2.2.2.2.2.1, ())))))
def Qb.l0 (k : Nat) : Nat → Qb.l0.σ → Option Qb.l0.τ := Q1f (Qb.l0.r k)
def Qb.l0.T : StT := ⟨us 2 ++ .ptr 2 [] :: us 1 ++ .ptr 3 [] :: us 19 ++ .dat QeC :: .dat (.int .i64) :: us 20, [.pair (.dat QeC) (.pair (.vsl 1) (.dat QeA)), .vec (.int .u8), .dat QeE, .dat QeE]⟩
def Qb.l0.os : List Out := [⟨(.exit 0), [.mask [2, 4], .auto 1], ⟨us 2 ++ .ptr 2 [] :: us 1 ++ .ptr 3 [] :: us 41, [.pair (.dat QeC) (.pair (.vsl 1) (.dat QeA)), .vec (.int .u8), .dat QeE, .dat QeE]⟩⟩]
abbrev Qb.τ : Type := ((List Int) × Qey × (List Int) × Unit)
def Qb.c (k : Nat) {ρ : Type} (b0 : Qey) (b1 : (List Int)) (K : Qb.τ → Option ρ) : Option ρ :=
 (Q0k k (b0.1, ((), (b0.2.2.1, ()))) b1).bind fun t0 => let v1 : Int := t0.1.2.2.1
 (Q0Y k v1).bind fun t2 => (Qd k t2.1 (t0.2.2.1.1, ((), (t0.2.2.1.2.2.1, ()))) t0.2.2.2.1).bind fun t3 => let v4 : (List Int) := t3.1.1
 (Qb.l0 k k (v4, ((0 : Int), ((t0.1.1, ((), (t0.1.2.2.1, ()))), (t0.2.1, ((List.replicate 32 (0 : Int)), ((List.replicate 32 (0 : Int)), ()))))))).bind fun t14 => let v15 : (List Int) := t14.2.2.2.1
 K (v15, ((t14.1.1, ((), (t14.1.2.2.1, ()))), (t14.2.1, ())))
def Qb (k : Nat) (b0 : Qey) (b1 : (List Int)) : Option Qb.τ := Qb.c k b0 b1 some
def Qb.T : Q15 := ⟨[.ptr 0 []], [.pair (.dat QeC) (.pair (.vsl 1) (.dat QeA)), .vec (.int .u8)], 1⟩
def Qb.os : List Out := [⟨.ret, [.freeze (.slot 0), .auto 1], ⟨[.dat QeE], [.pair (.dat QeC) (.pair (.vsl 1) (.dat QeA)), .vec (.int .u8)]⟩⟩]
def Qb.sem (k : Nat) : QS := Q17 Qb.T Qb.os fun x => Qb k x.1 x.2.1
noncomputable def Qb.ctx (k : Nat) : Ctx := ⟨Try.prog, gam [(100, (Q0k.sem k)), (101, (Q0Y.sem k)), (92, (Qd.sem k))]⟩
theorem Qb.gok (k : Nat) : ∀ f, Qu Try.prog f ((Qb.ctx k).Γ f) := (Qf (Q0k.sem_ok k) (Qf (Q0Y.sem_ok k) (Qf (Qd.sem_ok k) Q0e)))
theorem Qb.l1.round (k : Nat) : Q1j (Qb.ctx k) (Q0O (Func.code Try.f93) [1, 1, 1, 1, 1, 0, 1, 0, 0, 1, 1, 0, 0, 1, 1, 0, 0]) (.nil) Qb.l1.T [.mask [2, 4, 5, 6, 24, 25, 29], .auto 1] Qb.l1.os (Qb.l1.r k) := by
 intro ρ x kn ke; kernel_rfl
theorem Qb.l1.ok (k : Nat) : StOK 1 Try.prog (.loop (Q0O (Func.code Try.f93) [1, 1, 1, 1, 1, 0, 1, 0, 0, 1, 1, 0, 0, 1, 1, 0, 0])) (Q05 Qb.l1.T Qb.l1.os (Qb.l1 k k)) :=
 Q1m (C := Qb.ctx k) (Qb.gok k) Try.mix Q2.nil (by kernel_rfl) (by kernel_rfl) (by kernel_rfl) (Qb.l1.round k) k
theorem Qb.l0.round (k : Nat) : Q1j (Qb.ctx k) (Q0O (Func.code Try.f93) [1, 1, 1, 1, 1, 0, 1, 0, 0]) (.node [] none (.nil) (.node [] none (.nil) (.node [] none (.node [] none (.node [] none (.nil) (.node [] none (.nil) (.node [] none (.node [.mask [2, 4, 5, 6, 24, 25, 29], .auto 1] (some (Q05 Qb.l1.T Qb.l1.os (Qb.l1 k k))) .nil .nil) (.nil)))) (.nil)) (.nil)))) Qb.l0.T [.mask [2, 4, 24, 25], .auto 1] Qb.l0.os (Qb.l0.r k) := by
 intro ρ x kn ke; kernel_rfl
theorem Qb.l0.ok (k : Nat) : StOK 1 Try.prog (.loop (Q0O (Func.code Try.f93) [1, 1, 1, 1, 1, 0, 1, 0, 0])) (Q05 Qb.l0.T Qb.l0.os (Qb.l0 k k)) :=
 Q1m (C := Qb.ctx k) (Qb.gok k) Try.mix (Q2.seq Q2.nil (Q2.seq Q2.nil (Q2.seq (Q2.block (Q2.seq Q2.nil (Q2.seq Q2.nil (Q2.block (Q2.loop (by kernel_rfl) (Qb.l1.ok k)))))) Q2.nil))) (by kernel_rfl) (by kernel_rfl) (by kernel_rfl) (Qb.l0.round k) k
def Qb.ann (k : Nat) : Ann := .node [] none (.nil) (.node [] none (.nil) (.node [] none (.nil) (.node [] none (.nil) (.node [] none (.nil) (.node [] none (.node [] none (.nil) (.node [] none (.node [.mask [2, 4, 24, 25], .auto 1] (some (Q05 Qb.l0.T Qb.l0.os (Qb.l0 k k))) .nil .nil) (.nil))) (.nil))))))
theorem Qb.body (k : Nat) : Q18 (Qb.ctx k) Try.f93 (Func.code Try.f93) (Qb.ann k) Qb.T Qb.os (fun x K => Qb.c k x.1 x.2.1 K) := by
 intro ρ x K; kernel_rfl
theorem Qb.sem_ok (k : Nat) : Qu Try.prog 93 (Qb.sem k) :=
 Q0u (C := Qb.ctx k) (Qb.gok k) Try.mix (c := Func.code Try.f93) (ann := Qb.ann k) (T := Qb.T) (os := Qb.os) (fun x K => Qb.c k x.1 x.2.1 K) Try.func93 (by kernel_rfl) (by kernel_rfl) (Q2.seq Q2.nil (Q2.seq Q2.nil (Q2.seq Q2.nil (Q2.seq Q2.nil (Q2.seq Q2.nil (Q2.seq (Q2.seq Q2.nil (Q2.block (Q2.loop (by kernel_rfl) (Qb.l0.ok k)))) Q2.nil)))))) (Qb.body k) (by kernel_rfl) (by kernel_rfl) (by kernel_rfl)
def Q1k.c (k : Nat) {ρ : Type} (s : ByteArray) (K : (List Int) × Unit → Option ρ) : Option ρ :=
 (Q1l k ).bind fun t0 => (Qh k s (t0.1.1, ((), (t0.1.2.2.1, ())))).bind fun t1 => (Qb k (t1.1.1, ((), (t1.1.2.2.1, ()))) t1.2.1).bind fun t2 => K (t2.1, ())
def Q1k (k : Nat) (s : ByteArray) : Option QeF := Q1k.c k s some
def Q1k.tin : List Ty := [.str]
def Q1k.tout : List Ty := [QeE]
def Q1k.sem (k : Nat) : QS := Q16 Q1k.tin Q1k.tout fun x => Q1k k x.1
noncomputable def Q1k.ctx (k : Nat) : Ctx := ⟨Try.prog, gam [(91, (Q1l.sem k)), (92, (Qh.sem k)), (93, (Qb.sem k))]⟩
theorem Q1k.gok (k : Nat) : ∀ f, Qu Try.prog f ((Q1k.ctx k).Γ f) := (Qf (Q1l.sem_ok k) (Qf (Qh.sem_ok k) (Qf (Qb.sem_ok k) Q0e)))
def Q1k.ann (k : Nat) : Ann := .nil
theorem Q1k.body (k : Nat) : Q1p (Q1k.ctx k) Try.f84 (Func.code Try.f84) (Q1k.ann k) Q1k.tin Q1k.tout (fun x K => Q1k.c k x.1 K) := by
 intro ρ x K; kernel_rfl
theorem Q1k.sem_ok (k : Nat) : Qu Try.prog 84 (Q1k.sem k) :=
 Q12 (C := Q1k.ctx k) (Q1k.gok k) Try.mix (c := Func.code Try.f84) (ann := Q1k.ann k) (tin := Q1k.tin) (tout := Q1k.tout) (fun x K => Q1k.c k x.1 K) Try.func84 (by kernel_rfl) (by kernel_rfl) Q2.nil (Q1k.body k)
def Q1a.c (k : Nat) {ρ : Type} (s : ByteArray) (K : (List Int) × Unit → Option ρ) : Option ρ :=
 (Q1k k s).bind fun t0 => let v1 : ByteArray := (bytesOf (List.take 32 (List.drop 0 t0.1)))
 (Q1k k v1).bind fun t2 => K (t2.1, ())
def Q1a (k : Nat) (s : ByteArray) : Option QeF := Q1a.c k s some
def Q1a.tin : List Ty := [.str]
def Q1a.tout : List Ty := [QeE]
def Q1a.sem (k : Nat) : QS := Q16 Q1a.tin Q1a.tout fun x => Q1a k x.1
noncomputable def Q1a.ctx (k : Nat) : Ctx := ⟨Try.prog, gam [(84, (Q1k.sem k))]⟩
theorem Q1a.gok (k : Nat) : ∀ f, Qu Try.prog f ((Q1a.ctx k).Γ f) := (Qf (Q1k.sem_ok k) Q0e)
def Q1a.ann (k : Nat) : Ann := .nil
theorem Q1a.body (k : Nat) : Q1p (Q1a.ctx k) Try.f68 (Func.code Try.f68) (Q1a.ann k) Q1a.tin Q1a.tout (fun x K => Q1a.c k x.1 K) := by
 intro ρ x K; kernel_rfl
theorem Q1a.sem_ok (k : Nat) : Qu Try.prog 68 (Q1a.sem k) :=
 Q12 (C := Q1a.ctx k) (Q1a.gok k) Try.mix (c := Func.code Try.f68) (ann := Q1a.ann k) (tin := Q1a.tin) (tout := Q1a.tout) (fun x K => Q1a.c k x.1 K) Try.func68 (by kernel_rfl) (by kernel_rfl) Q2.nil (Q1a.body k)
def Q0X.c (k : Nat) {ρ : Type} (s : ByteArray) (K : ByteArray × Unit → Option ρ) : Option ρ :=
 (Q1a k s).bind fun t0 => let v1 : ByteArray := (bytesOf (List.take 4 (List.drop 0 t0.1)))
 K (v1, ())
def Q0X (k : Nat) (s : ByteArray) : Option (ByteArray × Unit) := Q0X.c k s some
def Q0X.tin : List Ty := [.str]
def Q0X.tout : List Ty := [.str]
def Q0X.sem (k : Nat) : QS := Q16 Q0X.tin Q0X.tout fun x => Q0X k x.1
noncomputable def Q0X.ctx (k : Nat) : Ctx := ⟨Try.prog, gam [(68, (Q1a.sem k))]⟩
theorem Q0X.gok (k : Nat) : ∀ f, Qu Try.prog f ((Q0X.ctx k).Γ f) := (Qf (Q1a.sem_ok k) Q0e)
def Q0X.ann (k : Nat) : Ann := .nil
theorem Q0X.body (k : Nat) : Q1p (Q0X.ctx k) Try.f39 (Func.code Try.f39) (Q0X.ann k) Q0X.tin Q0X.tout (fun x K => Q0X.c k x.1 K) := by
 intro ρ x K; kernel_rfl
theorem Q0X.sem_ok (k : Nat) : Qu Try.prog 39 (Q0X.sem k) :=
 Q12 (C := Q0X.ctx k) (Q0X.gok k) Try.mix (c := Func.code Try.f39) (ann := Q0X.ann k) (tin := Q0X.tin) (tout := Q0X.tout) (fun x K => Q0X.c k x.1 K) Try.func39 (by kernel_rfl) (by kernel_rfl) Q2.nil (Q0X.body k)
def Q09.c (k : Nat) {ρ : Type} (epoch : Int) (number : Int) (s : ByteArray) (K : ByteArray × Int × Unit → Option ρ) : Option ρ :=
 bif (decide ((((ByteArray.size s) : Nat) : Int) > (65536 : Int))) then (K ((⟨(List.toArray [])⟩ : ByteArray), ((121 : Int), ()))) else ((Q0M k ).bind fun t0 => (Q0I k (IntKind.wrap IntKind.u32 (((ByteArray.size s) : Nat) : Int)) (((), ((), ())), ()) t0.2.1).bind fun t1 => (Q0x k number (((), ((), ())), ()) t1.2.1).bind fun t2 => (Q06 k s (((), ((), ())), ()) t2.2.1).bind fun t3 => (Q0n k (((), ((), ())), ()) t3.2.1).bind fun t4 => (Q0Q k epoch).bind fun t5 => bif (Nat.ble ((ByteArray.size t5.1) + (ByteArray.size t4.1)) 9223372036854775807) then (let v6 : ByteArray := (t5.1 ++ t4.1)
 (Q0X k v6).bind fun t7 => bif (Nat.ble ((ByteArray.size t4.1) + (ByteArray.size t7.1)) 9223372036854775807) then (let v8 : ByteArray := (t4.1 ++ t7.1)
 K (v8, ((0 : Int), ()))) else (none)) else (none))
def Q09 (k : Nat) (epoch : Int) (number : Int) (s : ByteArray) : Option (ByteArray × Int × Unit) := Q09.c k epoch number s some
def Q09.tin : List Ty := [(.int .u64), (.int .u64), .str]
def Q09.tout : List Ty := [.str, (.int .i64)]
def Q09.sem (k : Nat) : QS := Q16 Q09.tin Q09.tout fun x => Q09 k x.1 x.2.1 x.2.2.1
noncomputable def Q09.ctx (k : Nat) : Ctx := ⟨Try.prog, gam [(34, (Q0M.sem k)), (35, (Q0I.sem k)), (36, (Q0x.sem k)), (37, (Q06.sem k)), (38, (Q0n.sem k)), (40, (Q0Q.sem k)), (39, (Q0X.sem k))]⟩
theorem Q09.gok (k : Nat) : ∀ f, Qu Try.prog f ((Q09.ctx k).Γ f) := (Qf (Q0M.sem_ok k) (Qf (Q0I.sem_ok k) (Qf (Q0x.sem_ok k) (Qf (Q06.sem_ok k) (Qf (Q0n.sem_ok k) (Qf (Q0Q.sem_ok k) (Qf (Q0X.sem_ok k) Q0e)))))))
def Q09.ann (k : Nat) : Ann := .nil
theorem Q09.body (k : Nat) : Q1p (Q09.ctx k) Try.f7 (Func.code Try.f7) (Q09.ann k) Q09.tin Q09.tout (fun x K => Q09.c k x.1 x.2.1 x.2.2.1 K) := by
 intro ρ x K; kernel_rfl
theorem Q09.sem_ok (k : Nat) : Qu Try.prog 7 (Q09.sem k) :=
 Q12 (C := Q09.ctx k) (Q09.gok k) Try.mix (c := Func.code Try.f7) (ann := Q09.ann k) (tin := Q09.tin) (tout := Q09.tout) (fun x K => Q09.c k x.1 x.2.1 x.2.2.1 K) Try.func7 (by kernel_rfl) (by kernel_rfl) Q2.nil (Q09.body k)
end Go.Am
namespace Go.Am
open Go Go.Proofs
set_option maxRecDepth 100000
def Q0p.c (k : Nat) {ρ : Type} (epoch : Int) (K : ByteArray × Unit → Option ρ) : Option ρ :=
 (Q0Q k epoch).bind fun t0 => bif (Nat.ble (8 + (ByteArray.size t0.1)) 9223372036854775807) then (let v1 : ByteArray := ((⟨(List.toArray [98, 101, 100, 114, 111, 99, 107, 106])⟩ : ByteArray) ++ t0.1)
 (Q0X k v1).bind fun t2 => bif (Nat.ble ((ByteArray.size v1) + (ByteArray.size t2.1)) 9223372036854775807) then (let v3 : ByteArray := (v1 ++ t2.1)
 K (v3, ())) else (none)) else (none)
def Q0p (k : Nat) (epoch : Int) : Option (ByteArray × Unit) := Q0p.c k epoch some
def Q0p.tin : List Ty := [(.int .u64)]
def Q0p.tout : List Ty := [.str]
def Q0p.sem (k : Nat) : QS := Q16 Q0p.tin Q0p.tout fun x => Q0p k x.1
noncomputable def Q0p.ctx (k : Nat) : Ctx := ⟨Try.prog, gam [(40, (Q0Q.sem k)), (39, (Q0X.sem k))]⟩
theorem Q0p.gok (k : Nat) : ∀ f, Qu Try.prog f ((Q0p.ctx k).Γ f) := (Qf (Q0Q.sem_ok k) (Qf (Q0X.sem_ok k) Q0e))
def Q0p.ann (k : Nat) : Ann := .nil
theorem Q0p.body (k : Nat) : Q1p (Q0p.ctx k) Try.f9 (Func.code Try.f9) (Q0p.ann k) Q0p.tin Q0p.tout (fun x K => Q0p.c k x.1 K) := by
 intro ρ x K; kernel_rfl
theorem Q0p.sem_ok (k : Nat) : Qu Try.prog 9 (Q0p.sem k) :=
 Q12 (C := Q0p.ctx k) (Q0p.gok k) Try.mix (c := Func.code Try.f9) (ann := Q0p.ann k) (tin := Q0p.tin) (tout := Q0p.tout) (fun x K => Q0p.c k x.1 K) Try.func9 (by kernel_rfl) (by kernel_rfl) Q2.nil (Q0p.body k)
end Go.Am
