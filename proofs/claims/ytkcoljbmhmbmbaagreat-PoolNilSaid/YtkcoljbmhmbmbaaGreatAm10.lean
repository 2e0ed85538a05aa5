/- A part of a proof: a machine of abstract values that tells what functions of the program compute, and the plain facts on them. -/
import Derived.Test.YtkcoljbmhmbmbaaGreatAm6
import Derived.Test.YtkcoljbmhmbmbaaGreatRows
import Derived.KernelRfl
import Derived.Test.YtkcoljbmhmbmbaaGreatProg
import Derived.Test.YtkcoljbmhmbmbaaGreatAm9
import Derived.Test.YtkcoljbmhmbmbaaGreatAm7
set_option linter.unusedVariables false
set_option linter.unusedSimpArgs false
set_option linter.unnecessarySimpa false
set_option linter.unusedSectionVars false
namespace Go.Am
abbrev Qec : Type := ((List Int) × Unit)
abbrev Qeb : Ty := (.arr 64 (.int .u8))
abbrev Qea : Ty := (.arr 8 (.int .u32))
abbrev Qe9 : Ty := (.arr 32 (.int .u8))
abbrev Qe8 : Ty := (.arr 64 (.int .u32))
abbrev Qe7 : Ty := (.pair (.int .u64) .unit)
abbrev Qe6 : Type := ((Unit × (Unit × Unit)) × Unit)
abbrev Qe5 : Type := ((List Int) × (Unit × (Int × Unit)))
abbrev Qe4 : Type := ((List Int) × (List Int) × (List Int) × Unit)
abbrev Qe3 : Type := ( Qe6  × (List Int) × Unit)
abbrev Qe2 : Type := ( Qe5  × (List Int) × Unit)
abbrev Qe1 : Type := (Int × ((List Int) × ((List Int) × (Int × (Int × (Int × Unit))))))
abbrev Qe0 : Ty := (.pair (.int .u32) (.pair  Qe9  (.pair  Qe9  (.pair (.int .u32) (.pair (.int .u32) (.pair (.int .u32) .unit))))))
end Go.Am
namespace Go.Proofs.YtkcoljbmhmbmbaaGreat
open Go.RowKit Go.Am
theorem Tryz.own : ownKnob Tryz.prog.godebug = none := by kernel_rfl
theorem Tryz.laidOut : laidOutB Tryz.prog = true := by kernel_rfl
end Go.Proofs.YtkcoljbmhmbmbaaGreat
namespace Go.Am
open Go
theorem QdI {p : Int → Prop} {l : List Int} (h : ∀ i, i < l.length → p (l.getD i 0)) : ∀ x ∈ l, p x := by
 intro x hx
 obtain ⟨i, hi, rfl⟩ := List.getElem_of_mem hx
 have := h i hi
 rw [List.getD_eq_getElem?_getD] at this
 simpa [hi] using this
theorem QcP : reachBytes = 140737488351232 := rfl
end Go.Am
namespace Go.Am
open Go Go.Proofs
theorem _root_.Go.Proofs.Tryz.mix : Tryz.prog.follows .mixedOrders = true := by kernel_rfl
end Go.Am
namespace Go.Am
open Go Go.Proofs Go.Shelf
set_option maxRecDepth 100000
def Bld.fs : List (Nat × Nat) := [(240, 155), (276, 173), (169, 132)]
def Bld.ts : List (Nat × Nat) := [(72, 199), (70, 197), (164, 249), (37, 156), (127, 230)]
def Bld.look : List (Nat × Nat) → Nat → Nat
 | [], n => n
 | (a, b) :: l, n => if n = a then b else Bld.look l n
def Bld.ren : Ren := ⟨Bld.look Bld.fs, Bld.look Bld.ts, fun n => n⟩
theorem Bld.lays240 : Lays.n240 Tryz.prog Bld.ren := by
 constructor <;> first | kernel_rfl | (intro w; kernel_rfl)
theorem Bld.lays169 : Lays.n169 Tryz.prog Bld.ren := by
 constructor <;> first | kernel_rfl | (intro w; kernel_rfl)
theorem Bld.x72 : Builder.X72 Tryz.prog Bld.ren where
 sizeBuilder := by kernel_rfl
 liesBuilder := by kernel_rfl
theorem Bld.extra : Builder.Extra Tryz.prog Bld.ren where
 sizeBuilder := by kernel_rfl
 liesBuilder := by kernel_rfl
 t5 := by kernel_rfl
 a5 := fun w => by kernel_rfl
 z5 := fun w => by kernel_rfl
 v5 := fun w => by kernel_rfl
 infoByte := by kernel_rfl
 cellsByte := by kernel_rfl
 sizeByte := by kernel_rfl
 neB5 := by decide
theorem Bld.copyCheck : Qb Tryz.prog 155 (QcG 201 2) := Q91 Bld.lays240 Bld.x72 (by kernel_rfl) (by constructor <;> kernel_rfl)
theorem Bld.string : Qb Tryz.prog 132 Qaz := Qbx Bld.lays169 Bld.extra rfl (by constructor <;> kernel_rfl)
end Go.Am
namespace Go.Am
open Go Go.Proofs
set_option maxRecDepth 100000
abbrev Q00.τ : Type := Qe3 
def Q00.c (k : Nat) {ρ : Type}  (K : Q00.τ → Option ρ) : Option ρ :=
 K ((((), ((), ())), ()), ([], ()))
def Q00 (k : Nat)  : Option Q00.τ := Q00.c k  some
def Q00.T : Q19 := ⟨[], [], 0⟩
def Q00.os : List Out := [⟨.ret, [.auto 0], ⟨[.ptr 0 []], [.pair (.pair (.sfp 0 [0] 201) (.pair (.vbs 1) (.dat .unit))) (.dat .unit), .vec (.int .u8)]⟩⟩]
def Q00.sem (k : Nat) : Qj := Q1g Q00.T Q00.os fun x => Q00 k 
noncomputable def Q00.ctx (k : Nat) : Ctx := ⟨Tryz.prog, gam []⟩
theorem Q00.gok (k : Nat) : ∀ f, Qb Tryz.prog f ((Q00.ctx k).Γ f) := QE
def Q00.ann (k : Nat) : Ann := .nil
theorem Q00.body (k : Nat) : Q1l (Q00.ctx k) Tryz.f95 (Func.code Tryz.f95) (Q00.ann k) Q00.T Q00.os (fun x K => Q00.c k  K) := by
 intro ρ x K; kernel_rfl
theorem Q00.sem_ok (k : Nat) : Qb Tryz.prog 95 (Q00.sem k) :=
 Q0P (C := Q00.ctx k) (Q00.gok k) Tryz.mix (c := Func.code Tryz.f95) (ann := Q00.ann k) (T := Q00.T) (os := Q00.os) (fun x K => Q00.c k  K) Tryz.func95 (by kernel_rfl) (by kernel_rfl) Q3.nil (Q00.body k) (by kernel_rfl) (by kernel_rfl) (by kernel_rfl)
abbrev Q0p.l0.σ : Type := Int × Int × Int × (List Int) × Unit
abbrev Q0p.l0.τ : Type := Qec 
def Q0p.l0.r (k : Nat) {ρ : Type} (x : Q0p.l0.σ) (kn : Q0p.l0.σ → Option ρ) (ke : Q0p.l0.τ → Option ρ) : Option ρ :=
 bif (decide (x.2.2.1 < x.2.1)) then (let v1 : Int := (IntKind.wrap IntKind.i64 ((8 : Int) * x.2.2.1))
 bif (decide ((0 : Int) ≤ v1)) then (let v2 : Int := (Q2H IntKind.u64 x.1 v1)
 bif (decide (((0 : Int) ≤ x.2.2.1) ∧ (x.2.2.1 < (((List.length x.2.2.2.1) : Nat) : Int)))) then (let v3 : Int := (IntKind.wrap IntKind.i64 (x.2.2.1 + (1 : Int)))
 kn (x.1, (x.2.1, (v3, ((List.set x.2.2.2.1 (Int.toNat x.2.2.1) (IntKind.wrap IntKind.u8 v2)), ()))))) else (none)) else (none)) else (ke (x.2.2.2.1, ()))
def Q0p.l0 (k : Nat) : Nat → Q0p.l0.σ → Option Q0p.l0.τ := Q15 (Q0p.l0.r k)
def Q0p.l0.T : StT := ⟨.dat (.int .u64) :: us 4 ++ .vsl 0 :: us 4 ++ .dat (.int .i64) :: .dat (.int .i64) :: us 13, [.vec (.int .u8)]⟩
def Q0p.l0.os : List Out := [⟨(.exit 0), [.mask [5], .auto 0], ⟨us 5 ++ .vsl 0 :: us 19, [.vec (.int .u8)]⟩⟩]
def Q0p.c (k : Nat) {ρ : Type} (n : Int) (bytes : Int) (K : ByteArray × Unit → Option ρ) : Option ρ :=
 bif ((decide (((0 : Int) ≤ bytes) ∧ (bytes ≤ bytes))) && (Nat.ble ((Int.toNat bytes) * 1) 140737488355328)) then (let v0 : Int := (((List.length (List.replicate (Int.toNat bytes) (0 : Int))) : Nat) : Int)
 (Q0p.l0 k k (n, (v0, ((0 : Int), ((List.replicate (Int.toNat bytes) (0 : Int)), ()))))).bind fun t4 => K ((bytesOf t4.1), ())) else (none)
def Q0p (k : Nat) (n : Int) (bytes : Int) : Option (ByteArray × Unit) := Q0p.c k n bytes some
def Q0p.tin : List Ty := [(.int .u64), (.int .i64)]
def Q0p.tout : List Ty := [.str]
def Q0p.sem (k : Nat) : Qj := Qn Q0p.tin Q0p.tout fun x => Q0p k x.1 x.2.1
noncomputable def Q0p.ctx (k : Nat) : Ctx := ⟨Tryz.prog, gam []⟩
theorem Q0p.gok (k : Nat) : ∀ f, Qb Tryz.prog f ((Q0p.ctx k).Γ f) := QE
theorem Q0p.l0.round (k : Nat) : Q0V (Q0p.ctx k) (Q0e (Func.code Tryz.f131) [1, 1, 0, 1, 0, 0]) (.nil) Q0p.l0.T [.mask [0, 5, 10, 11], .auto 0] Q0p.l0.os (Q0p.l0.r k) := by
 intro ρ x kn ke; kernel_rfl
theorem Q0p.l0.ok (k : Nat) : StOK 0 Tryz.prog (.loop (Q0e (Func.code Tryz.f131) [1, 1, 0, 1, 0, 0])) (Qv Q0p.l0.T Q0p.l0.os (Q0p.l0 k k)) :=
 Q0X (C := Q0p.ctx k) (Q0p.gok k) Tryz.mix Q3.nil (by kernel_rfl) (by kernel_rfl) (by kernel_rfl) (Q0p.l0.round k) k
def Q0p.ann (k : Nat) : Ann := .node [] none (.nil) (.node [] none (.nil) (.node [] none (.node [] none (.nil) (.node [] none (.node [.mask [0, 5, 10, 11], .auto 0] (some (Qv Q0p.l0.T Q0p.l0.os (Q0p.l0 k k))) .nil .nil) (.nil))) (.nil)))
theorem Q0p.body (k : Nat) : Q0M (Q0p.ctx k) Tryz.f131 (Func.code Tryz.f131) (Q0p.ann k) Q0p.tin Q0p.tout (fun x K => Q0p.c k x.1 x.2.1 K) := by
 intro ρ x K; kernel_rfl
theorem Q0p.sem_ok (k : Nat) : Qb Tryz.prog 131 (Q0p.sem k) :=
 Qs (C := Q0p.ctx k) (Q0p.gok k) Tryz.mix (c := Func.code Tryz.f131) (ann := Q0p.ann k) (tin := Q0p.tin) (tout := Q0p.tout) (fun x K => Q0p.c k x.1 x.2.1 K) Tryz.func131 (by kernel_rfl) (by kernel_rfl) (Q3.seq Q3.nil (Q3.seq Q3.nil (Q3.seq (Q3.seq Q3.nil (Q3.block (Q3.loop (by kernel_rfl) (Q0p.l0.ok k)))) Q3.nil))) (Q0p.body k)
abbrev Qg.τ : Type := (Int × Qe6 × (List Int) × Unit)
def Qg.c (k : Nat) {ρ : Type} (s : ByteArray) (b0 : Qe6) (b1 : (List Int)) (K : Qg.τ → Option ρ) : Option ρ :=
 bif (Nat.ble (((List.length b1) + (List.length (Q1x s))) * 1) 140737488355328) then (K ((((ByteArray.size s) : Nat) : Int), ((((), ((), ())), ()), ((b1 ++ (Q1x s)), ())))) else (none)
def Qg (k : Nat) (s : ByteArray) (b0 : Qe6) (b1 : (List Int)) : Option Qg.τ := Qg.c k s b0 b1 some
def Qg.T : Q19 := ⟨[.ptr 0 [0], .dat .str], [.pair (.pair (.sfp 0 [0] 201) (.pair (.vbs 1) (.dat .unit))) (.dat .unit), .vec (.int .u8)], 1⟩
def Qg.os : List Out := [⟨.ret, [.freeze (.slot 0), .auto 1], ⟨[.dat (.int .i64), .undef], [.pair (.pair (.sfp 0 [0] 201) (.pair (.vbs 1) (.dat .unit))) (.dat .unit), .vec (.int .u8)]⟩⟩]
def Qg.sem (k : Nat) : Qj := Q1g Qg.T Qg.os fun x => Qg k x.1 x.2.1 x.2.2.1
noncomputable def Qg.ctx (k : Nat) : Ctx := ⟨Tryz.prog, gam [(155, (QcG 201 2))]⟩
theorem Qg.gok (k : Nat) : ∀ f, Qb Tryz.prog f ((Qg.ctx k).Γ f) := (Q7 Bld.copyCheck QE)
def Qg.ann (k : Nat) : Ann := .nil
theorem Qg.body (k : Nat) : Q1l (Qg.ctx k) Tryz.f133 (Func.code Tryz.f133) (Qg.ann k) Qg.T Qg.os (fun x K => Qg.c k x.1 x.2.1 x.2.2.1 K) := by
 intro ρ x K; kernel_rfl
theorem Qg.sem_ok (k : Nat) : Qb Tryz.prog 133 (Qg.sem k) :=
 Q0P (C := Qg.ctx k) (Qg.gok k) Tryz.mix (c := Func.code Tryz.f133) (ann := Qg.ann k) (T := Qg.T) (os := Qg.os) (fun x K => Qg.c k x.1 x.2.1 x.2.2.1 K) Tryz.func133 (by kernel_rfl) (by kernel_rfl) Q3.nil (Qg.body k) (by kernel_rfl) (by kernel_rfl) (by kernel_rfl)
abbrev Ql.τ : Type := Qe3 
def Ql.c (k : Nat) {ρ : Type} (s : ByteArray) (b0 : Qe6) (b1 : (List Int)) (K : Ql.τ → Option ρ) : Option ρ :=
 (Qg k s (((), ((), ())), ()) b1).bind fun t0 => K ((((), ((), ())), ()), (t0.2.2.1, ()))
def Ql (k : Nat) (s : ByteArray) (b0 : Qe6) (b1 : (List Int)) : Option Ql.τ := Ql.c k s b0 b1 some
def Ql.T : Q19 := ⟨[.ptr 0 [], .dat .str], [.pair (.pair (.sfp 0 [0] 201) (.pair (.vbs 1) (.dat .unit))) (.dat .unit), .vec (.int .u8)], 1⟩
def Ql.os : List Out := [⟨.ret, [.auto 1], ⟨[], [.pair (.pair (.sfp 0 [0] 201) (.pair (.vbs 1) (.dat .unit))) (.dat .unit), .vec (.int .u8)]⟩⟩]
def Ql.sem (k : Nat) : Qj := Q1g Ql.T Ql.os fun x => Ql k x.1 x.2.1 x.2.2.1
noncomputable def Ql.ctx (k : Nat) : Ctx := ⟨Tryz.prog, gam [(133, (Qg.sem k))]⟩
theorem Ql.gok (k : Nat) : ∀ f, Qb Tryz.prog f ((Ql.ctx k).Γ f) := (Q7 (Qg.sem_ok k) QE)
def Ql.ann (k : Nat) : Ann := .nil
theorem Ql.body (k : Nat) : Q1l (Ql.ctx k) Tryz.f99 (Func.code Tryz.f99) (Ql.ann k) Ql.T Ql.os (fun x K => Ql.c k x.1 x.2.1 x.2.2.1 K) := by
 intro ρ x K; kernel_rfl
theorem Ql.sem_ok (k : Nat) : Qb Tryz.prog 99 (Ql.sem k) :=
 Q0P (C := Ql.ctx k) (Ql.gok k) Tryz.mix (c := Func.code Tryz.f99) (ann := Ql.ann k) (T := Ql.T) (os := Ql.os) (fun x K => Ql.c k x.1 x.2.1 x.2.2.1 K) Tryz.func99 (by kernel_rfl) (by kernel_rfl) Q3.nil (Ql.body k) (by kernel_rfl) (by kernel_rfl) (by kernel_rfl)
abbrev QC.τ : Type := Qe3 
def QC.c (k : Nat) {ρ : Type} (n : Int) (b0 : Qe6) (b1 : (List Int)) (K : QC.τ → Option ρ) : Option ρ :=
 (Q0p k (IntKind.wrap IntKind.u64 n) (4 : Int)).bind fun t0 => (Ql k t0.1 (((), ((), ())), ()) b1).bind fun t1 => K ((((), ((), ())), ()), (t1.2.1, ()))
def QC (k : Nat) (n : Int) (b0 : Qe6) (b1 : (List Int)) : Option QC.τ := QC.c k n b0 b1 some
def QC.T : Q19 := ⟨[.ptr 0 [], .dat (.int .u32)], [.pair (.pair (.sfp 0 [0] 201) (.pair (.vbs 1) (.dat .unit))) (.dat .unit), .vec (.int .u8)], 1⟩
def QC.os : List Out := [⟨.ret, [.auto 1], ⟨[], [.pair (.pair (.sfp 0 [0] 201) (.pair (.vbs 1) (.dat .unit))) (.dat .unit), .vec (.int .u8)]⟩⟩]
def QC.sem (k : Nat) : Qj := Q1g QC.T QC.os fun x => QC k x.1 x.2.1 x.2.2.1
noncomputable def QC.ctx (k : Nat) : Ctx := ⟨Tryz.prog, gam [(131, (Q0p.sem k)), (99, (Ql.sem k))]⟩
theorem QC.gok (k : Nat) : ∀ f, Qb Tryz.prog f ((QC.ctx k).Γ f) := (Q7 (Q0p.sem_ok k) (Q7 (Ql.sem_ok k) QE))
def QC.ann (k : Nat) : Ann := .nil
theorem QC.body (k : Nat) : Q1l (QC.ctx k) Tryz.f96 (Func.code Tryz.f96) (QC.ann k) QC.T QC.os (fun x K => QC.c k x.1 x.2.1 x.2.2.1 K) := by
 intro ρ x K; kernel_rfl
theorem QC.sem_ok (k : Nat) : Qb Tryz.prog 96 (QC.sem k) :=
 Q0P (C := QC.ctx k) (QC.gok k) Tryz.mix (c := Func.code Tryz.f96) (ann := QC.ann k) (T := QC.T) (os := QC.os) (fun x K => QC.c k x.1 x.2.1 x.2.2.1 K) Tryz.func96 (by kernel_rfl) (by kernel_rfl) Q3.nil (QC.body k) (by kernel_rfl) (by kernel_rfl) (by kernel_rfl)
abbrev QN.τ : Type := Qe3 
def QN.c (k : Nat) {ρ : Type} (h : (List Int)) (b0 : Qe6) (b1 : (List Int)) (K : QN.τ → Option ρ) : Option ρ :=
 let v0 : ByteArray := (bytesOf (List.take 32 (List.drop 0 h)))
 (Ql k v0 (((), ((), ())), ()) b1).bind fun t1 => K ((((), ((), ())), ()), (t1.2.1, ()))
def QN (k : Nat) (h : (List Int)) (b0 : Qe6) (b1 : (List Int)) : Option QN.τ := QN.c k h b0 b1 some
def QN.T : Q19 := ⟨[.ptr 0 [], .dat Qe9], [.pair (.pair (.sfp 0 [0] 201) (.pair (.vbs 1) (.dat .unit))) (.dat .unit), .vec (.int .u8)], 1⟩
def QN.os : List Out := [⟨.ret, [.auto 1], ⟨[], [.pair (.pair (.sfp 0 [0] 201) (.pair (.vbs 1) (.dat .unit))) (.dat .unit), .vec (.int .u8)]⟩⟩]
def QN.sem (k : Nat) : Qj := Q1g QN.T QN.os fun x => QN k x.1 x.2.1 x.2.2.1
noncomputable def QN.ctx (k : Nat) : Ctx := ⟨Tryz.prog, gam [(99, (Ql.sem k))]⟩
theorem QN.gok (k : Nat) : ∀ f, Qb Tryz.prog f ((QN.ctx k).Γ f) := (Q7 (Ql.sem_ok k) QE)
def QN.ann (k : Nat) : Ann := .nil
theorem QN.body (k : Nat) : Q1l (QN.ctx k) Tryz.f97 (Func.code Tryz.f97) (QN.ann k) QN.T QN.os (fun x K => QN.c k x.1 x.2.1 x.2.2.1 K) := by
 intro ρ x K; kernel_rfl
theorem QN.sem_ok (k : Nat) : Qb Tryz.prog 97 (QN.sem k) :=
 Q0P (C := QN.ctx k) (QN.gok k) Tryz.mix (c := Func.code Tryz.f97) (ann := QN.ann k) (T := QN.T) (os := QN.os) (fun x K => QN.c k x.1 x.2.1 x.2.2.1 K) Tryz.func97 (by kernel_rfl) (by kernel_rfl) Q3.nil (QN.body k) (by kernel_rfl) (by kernel_rfl) (by kernel_rfl)
abbrev QA.τ : Type := (ByteArray × Unit)
def QA.c (k : Nat) {ρ : Type} (b0 : Qe6) (b1 : (List Int)) (K : QA.τ → Option ρ) : Option ρ :=
 bif (Nat.ble (List.length b1) 9223372036854775807) then (K ((bytesOf b1), ())) else (none)
def QA (k : Nat) (b0 : Qe6) (b1 : (List Int)) : Option QA.τ := QA.c k b0 b1 some
def QA.T : Q19 := ⟨[.ptr 0 []], [.pair (.pair (.sfp 0 [0] 201) (.pair (.vbs 1) (.dat .unit))) (.dat .unit), .vec (.int .u8)], 1⟩
def QA.os : List Out := [⟨.ret, [.freeze (.slot 0), .auto 1], ⟨[.dat .str], [.undef]⟩⟩]
def QA.sem (k : Nat) : Qj := Q1g QA.T QA.os fun x => QA k x.1 x.2.1
noncomputable def QA.ctx (k : Nat) : Ctx := ⟨Tryz.prog, gam [(132, Qaz)]⟩
theorem QA.gok (k : Nat) : ∀ f, Qb Tryz.prog f ((QA.ctx k).Γ f) := (Q7 Bld.string QE)
def QA.ann (k : Nat) : Ann := .nil
theorem QA.body (k : Nat) : Q1l (QA.ctx k) Tryz.f98 (Func.code Tryz.f98) (QA.ann k) QA.T QA.os (fun x K => QA.c k x.1 x.2.1 K) := by
 intro ρ x K; kernel_rfl
theorem QA.sem_ok (k : Nat) : Qb Tryz.prog 98 (QA.sem k) :=
 Q0P (C := QA.ctx k) (QA.gok k) Tryz.mix (c := Func.code Tryz.f98) (ann := QA.ann k) (T := QA.T) (os := QA.os) (fun x K => QA.c k x.1 x.2.1 K) Tryz.func98 (by kernel_rfl) (by kernel_rfl) Q3.nil (QA.body k) (by kernel_rfl) (by kernel_rfl) (by kernel_rfl)
def Q0K.c (k : Nat) {ρ : Type} (h : Qe1) (K : ByteArray × Unit → Option ρ) : Option ρ :=
 (Q00 k ).bind fun t0 => let v1 : Int := h.1
 (QC k v1 (((), ((), ())), ()) t0.2.1).bind fun t2 => let v3 : (List Int) := h.2.1
 (QN k v3 (((), ((), ())), ()) t2.2.1).bind fun t4 => let v5 : (List Int) := h.2.2.1
 (QN k v5 (((), ((), ())), ()) t4.2.1).bind fun t6 => let v7 : Int := h.2.2.2.1
 (QC k v7 (((), ((), ())), ()) t6.2.1).bind fun t8 => let v9 : Int := h.2.2.2.2.1
 (QC k v9 (((), ((), ())), ()) t8.2.1).bind fun t10 => let v11 : Int := h.2.2.2.2.2.1
 (QC k v11 (((), ((), ())), ()) t10.2.1).bind fun t12 => (QA k (((), ((), ())), ()) t12.2.1).bind fun t13 => K (t13.1, ())
def Q0K (k : Nat) (h : Qe1) : Option (ByteArray × Unit) := Q0K.c k h some
def Q0K.tin : List Ty := [Qe0]
def Q0K.tout : List Ty := [.str]
def Q0K.sem (k : Nat) : Qj := Qn Q0K.tin Q0K.tout fun x => Q0K k x.1
noncomputable def Q0K.ctx (k : Nat) : Ctx := ⟨Tryz.prog, gam [(95, (Q00.sem k)), (96, (QC.sem k)), (97, (QN.sem k)), (98, (QA.sem k))]⟩
theorem Q0K.gok (k : Nat) : ∀ f, Qb Tryz.prog f ((Q0K.ctx k).Γ f) := (Q7 (Q00.sem_ok k) (Q7 (QC.sem_ok k) (Q7 (QN.sem_ok k) (Q7 (QA.sem_ok k) QE))))
def Q0K.ann (k : Nat) : Ann := .nil
theorem Q0K.body (k : Nat) : Q0M (Q0K.ctx k) Tryz.f67 (Func.code Tryz.f67) (Q0K.ann k) Q0K.tin Q0K.tout (fun x K => Q0K.c k x.1 K) := by
 intro ρ x K; kernel_rfl
theorem Q0K.sem_ok (k : Nat) : Qb Tryz.prog 67 (Q0K.sem k) :=
 Qs (C := Q0K.ctx k) (Q0K.gok k) Tryz.mix (c := Func.code Tryz.f67) (ann := Q0K.ann k) (tin := Q0K.tin) (tout := Q0K.tout) (fun x K => Q0K.c k x.1 K) Tryz.func67 (by kernel_rfl) (by kernel_rfl) Q3.nil (Q0K.body k)
def Q0S.c (k : Nat) {ρ : Type}  (K : (List Int) × Unit → Option ρ) : Option ρ :=
 let v0 : (List Int) := (List.set (List.set (List.set (List.set (List.set (List.set (List.set (List.set (List.replicate 8 (0 : Int)) 0 (1779033703 : Int)) 1 (3144134277 : Int)) 2 (1013904242 : Int)) 3 (2773480762 : Int)) 4 (1359893119 : Int)) 5 (2600822924 : Int)) 6 (528734635 : Int)) 7 (1541459225 : Int))
 K (v0, ())
def Q0S (k : Nat)  : Option Qec := Q0S.c k  some
def Q0S.tin : List Ty := []
def Q0S.tout : List Ty := [Qea]
def Q0S.sem (k : Nat) : Qj := Qn Q0S.tin Q0S.tout fun x => Q0S k 
noncomputable def Q0S.ctx (k : Nat) : Ctx := ⟨Tryz.prog, gam []⟩
theorem Q0S.gok (k : Nat) : ∀ f, Qb Tryz.prog f ((Q0S.ctx k).Γ f) := QE
def Q0S.ann (k : Nat) : Ann := .nil
theorem Q0S.body (k : Nat) : Q0M (Q0S.ctx k) Tryz.f151 (Func.code Tryz.f151) (Q0S.ann k) Q0S.tin Q0S.tout (fun x K => Q0S.c k  K) := by
 intro ρ x K; kernel_rfl
theorem Q0S.sem_ok (k : Nat) : Qb Tryz.prog 151 (Q0S.sem k) :=
 Qs (C := Q0S.ctx k) (Q0S.gok k) Tryz.mix (c := Func.code Tryz.f151) (ann := Q0S.ann k) (tin := Q0S.tin) (tout := Q0S.tout) (fun x K => Q0S.c k  K) Tryz.func151 (by kernel_rfl) (by kernel_rfl) Q3.nil (Q0S.body k)
abbrev Q14.τ : Type := (Qe5 × Unit)
def Q14.c (k : Nat) {ρ : Type}  (K : Q14.τ → Option ρ) : Option ρ :=
 (Q0S k ).bind fun t0 => K ((t0.1, ((), ((0 : Int), ()))), ())
def Q14 (k : Nat)  : Option Q14.τ := Q14.c k  some
def Q14.T : Q19 := ⟨[], [], 0⟩
def Q14.os : List Out := [⟨.ret, [.auto 0], ⟨[.ptr 0 []], [.pair (.dat Qea) (.pair (.nils) (.dat Qe7))]⟩⟩]
def Q14.sem (k : Nat) : Qj := Q1g Q14.T Q14.os fun x => Q14 k 
noncomputable def Q14.ctx (k : Nat) : Ctx := ⟨Tryz.prog, gam [(151, (Q0S.sem k))]⟩
theorem Q14.gok (k : Nat) : ∀ f, Qb Tryz.prog f ((Q14.ctx k).Γ f) := (Q7 (Q0S.sem_ok k) QE)
def Q14.ann (k : Nat) : Ann := .nil
theorem Q14.body (k : Nat) : Q1l (Q14.ctx k) Tryz.f128 (Func.code Tryz.f128) (Q14.ann k) Q14.T Q14.os (fun x K => Q14.c k  K) := by
 intro ρ x K; kernel_rfl
theorem Q14.sem_ok (k : Nat) : Qb Tryz.prog 128 (Q14.sem k) :=
 Q0P (C := Q14.ctx k) (Q14.gok k) Tryz.mix (c := Func.code Tryz.f128) (ann := Q14.ann k) (T := Q14.T) (os := Q14.os) (fun x K => Q14.c k  K) Tryz.func128 (by kernel_rfl) (by kernel_rfl) Q3.nil (Q14.body k) (by kernel_rfl) (by kernel_rfl) (by kernel_rfl)
def Qr.c (k : Nat) {ρ : Type} (x_0 : Int) (k_1 : Int) (K : Int × Unit → Option ρ) : Option ρ :=
 let v0 : Int := (Q1o BinOp.and IntKind.u64 (IntKind.wrap IntKind.u64 k_1) (31 : Int))
 bif (decide ((0 : Int) ≤ v0)) then (let v1 : Int := (IntKind.wrap IntKind.u64 ((32 : Int) - v0))
 bif (decide ((0 : Int) ≤ v1)) then (let v2 : Int := (Q1o BinOp.or IntKind.u32 (Q4p IntKind.u32 x_0 v0) (Q2H IntKind.u32 x_0 v1))
 K (v2, ())) else (none)) else (none)
def Qr (k : Nat) (x_0 : Int) (k_1 : Int) : Option (Int × Unit) := Qr.c k x_0 k_1 some
def Qr.tin : List Ty := [(.int .u32), (.int .i64)]
def Qr.tout : List Ty := [(.int .u32)]
def Qr.sem (k : Nat) : Qj := Qn Qr.tin Qr.tout fun x => Qr k x.1 x.2.1
noncomputable def Qr.ctx (k : Nat) : Ctx := ⟨Tryz.prog, gam []⟩
theorem Qr.gok (k : Nat) : ∀ f, Qb Tryz.prog f ((Qr.ctx k).Γ f) := QE
def Qr.ann (k : Nat) : Ann := .nil
theorem Qr.body (k : Nat) : Q0M (Qr.ctx k) Tryz.f182 (Func.code Tryz.f182) (Qr.ann k) Qr.tin Qr.tout (fun x K => Qr.c k x.1 x.2.1 K) := by
 intro ρ x K; kernel_rfl
theorem Qr.sem_ok (k : Nat) : Qb Tryz.prog 182 (Qr.sem k) :=
 Qs (C := Qr.ctx k) (Qr.gok k) Tryz.mix (c := Func.code Tryz.f182) (ann := Qr.ann k) (tin := Qr.tin) (tout := Qr.tout) (fun x K => Qr.c k x.1 x.2.1 K) Tryz.func182 (by kernel_rfl) (by kernel_rfl) Q3.nil (Qr.body k)
def Q0t.c (k : Nat) {ρ : Type} (x_0 : Int) (n : Int) (K : Int × Unit → Option ρ) : Option ρ :=
 let v0 : Int := (IntKind.wrap IntKind.i64 ((0 : Int) - n))
 (Qr k x_0 v0).bind fun t1 => K (t1.1, ())
def Q0t (k : Nat) (x_0 : Int) (n : Int) : Option (Int × Unit) := Q0t.c k x_0 n some
def Q0t.tin : List Ty := [(.int .u32), (.int .i64)]
def Q0t.tout : List Ty := [(.int .u32)]
def Q0t.sem (k : Nat) : Qj := Qn Q0t.tin Q0t.tout fun x => Q0t k x.1 x.2.1
noncomputable def Q0t.ctx (k : Nat) : Ctx := ⟨Tryz.prog, gam [(182, (Qr.sem k))]⟩
theorem Q0t.gok (k : Nat) : ∀ f, Qb Tryz.prog f ((Q0t.ctx k).Γ f) := (Q7 (Qr.sem_ok k) QE)
def Q0t.ann (k : Nat) : Ann := .nil
theorem Q0t.body (k : Nat) : Q0M (Q0t.ctx k) Tryz.f172 (Func.code Tryz.f172) (Q0t.ann k) Q0t.tin Q0t.tout (fun x K => Q0t.c k x.1 x.2.1 K) := by
 intro ρ x K; kernel_rfl
theorem Q0t.sem_ok (k : Nat) : Qb Tryz.prog 172 (Q0t.sem k) :=
 Qs (C := Q0t.ctx k) (Q0t.gok k) Tryz.mix (c := Func.code Tryz.f172) (ann := Q0t.ann k) (tin := Q0t.tin) (tout := Q0t.tout) (fun x K => Q0t.c k x.1 x.2.1 K) Tryz.func172 (by kernel_rfl) (by kernel_rfl) Q3.nil (Q0t.body k)
abbrev Qh.l1.σ : Type := Int × Int × (Nat × Nat) × Int × Int × (List Int) × (List Int) × (List Int) × Unit
abbrev Qh.l1.τ : Type := (Int × (List Int) × (List Int) × (List Int) × Unit)
def Qh.l1.r (k : Nat) {ρ : Type} (x : Qh.l1.σ) (kn : Qh.l1.σ → Option ρ) (ke : Qh.l1.τ → Option ρ) : Option ρ :=
 bif (decide (x.2.2.2.2.1 < x.2.2.2.1)) then (bif (decide (((0 : Int) ≤ x.2.2.2.2.1) ∧ (x.2.2.2.2.1 < ((x.2.2.1.2 : Nat) : Int)))) then (let v4 : Int := (List.getD x.2.2.2.2.2.1 (x.2.2.1.1 + (Int.toNat x.2.2.2.2.1)) (0 : Int))
 bif (decide (((0 : Int) ≤ x.1) ∧ (x.1 < ((64 : Nat) : Int)))) then (let v5 : Int := (List.getD x.2.2.2.2.2.2.2.1 (Int.toNat x.1) (0 : Int))
 let v6 : Int := (Q4p IntKind.u32 v5 (8 : Int))
 bif (decide (((0 : Int) ≤ x.1) ∧ (x.1 < ((64 : Nat) : Int)))) then (let v7 : Int := (IntKind.wrap IntKind.i64 (x.2.2.2.2.1 + (1 : Int)))
 kn (x.1, (x.2.1, ((x.2.2.1.1, x.2.2.1.2), (x.2.2.2.1, (v7, (x.2.2.2.2.2.1, (x.2.2.2.2.2.2.1, ((List.set x.2.2.2.2.2.2.2.1 (Int.toNat x.1) (Q1o BinOp.or IntKind.u32 v6 (IntKind.wrap IntKind.u32 v4))), ()))))))))) else (none)) else (none)) else (none)) else (ke (x.2.1, (x.2.2.2.2.2.1, (x.2.2.2.2.2.2.1, (x.2.2.2.2.2.2.2.1, ())))))
def Qh.l1 (k : Nat) : Nat → Qh.l1.σ → Option Qh.l1.τ := Q15 (Qh.l1.r k)
def Qh.l1.T : StT := ⟨.ptr 0 [] :: us 1 ++ .ptr 1 [] :: .ptr 2 [] :: .dat (.int .i64) :: us 7 ++ .dat (.int .i64) :: us 9 ++ .slr 0 [] :: .dat (.int .i64) :: .dat (.int .i64) :: us 58, [.dat Qeb, .dat Qe8, .dat Qe8]⟩
def Qh.l1.os : List Out := [⟨(.exit 2), [.mask [0, 2, 3, 12], .auto 1], ⟨.ptr 0 [] :: us 1 ++ .ptr 1 [] :: .ptr 2 [] :: us 8 ++ .dat (.int .i64) :: us 70, [.dat Qeb, .dat Qe8, .dat Qe8]⟩⟩]
abbrev Qh.l0.σ : Type := Int × (List Int) × (List Int) × (List Int) × Unit
abbrev Qh.l0.τ : Type := Qe4 
def Qh.l0.r (k : Nat) {ρ : Type} (x : Qh.l0.σ) (kn : Qh.l0.σ → Option ρ) (ke : Qh.l0.τ → Option ρ) : Option ρ :=
 bif (decide (x.1 < (16 : Int))) then (let v0 : Int := (IntKind.wrap IntKind.i64 ((4 : Int) * x.1))
 let v1 : Int := (IntKind.wrap IntKind.i64 (x.1 + (1 : Int)))
 let v2 : Int := (IntKind.wrap IntKind.i64 ((4 : Int) * v1))
 bif (decide (((0 : Int) ≤ v0) ∧ ((v0 ≤ v2) ∧ (v2 ≤ ((64 : Nat) : Int))))) then (let v3 : Int := (((Int.toNat (v2 - v0)) : Nat) : Int)
 (Qh.l1 k k (x.1, (x.1, (((Int.toNat v0), (Int.toNat (v2 - v0))), (v3, ((0 : Int), (x.2.1, (x.2.2.1, (x.2.2.2.1, ()))))))))).bind fun t8 => let v9 : Int := (IntKind.wrap IntKind.i64 (t8.1 + (1 : Int)))
 kn (v9, (t8.2.1, (t8.2.2.1, (t8.2.2.2.1, ()))))) else (none)) else (ke (x.2.1, (x.2.2.1, (x.2.2.2.1, ()))))
def Qh.l0 (k : Nat) : Nat → Qh.l0.σ → Option Qh.l0.τ := Q15 (Qh.l0.r k)
def Qh.l0.T : StT := ⟨.ptr 0 [] :: us 1 ++ .ptr 1 [] :: .ptr 2 [] :: us 8 ++ .dat (.int .i64) :: us 70, [.dat Qeb, .dat Qe8, .dat Qe8]⟩
def Qh.l0.os : List Out := [⟨(.exit 0), [.mask [2, 3], .auto 1], ⟨us 2 ++ .ptr 1 [] :: .ptr 2 [] :: us 79, [.dat Qeb, .dat Qe8, .dat Qe8]⟩⟩]
abbrev Qh.l2.σ : Type := Int × (List Int) × (List Int) × (List Int) × Unit
abbrev Qh.l2.τ : Type := Qe4 
def Qh.l2.r (k : Nat) {ρ : Type} (x : Qh.l2.σ) (kn : Qh.l2.σ → Option ρ) (ke : Qh.l2.τ → Option ρ) : Option ρ :=
 bif (decide (x.1 < (64 : Int))) then (let v11 : Int := (IntKind.wrap IntKind.i64 (x.1 - (2 : Int)))
 bif (decide (((0 : Int) ≤ v11) ∧ (v11 < ((64 : Nat) : Int)))) then (let v12 : Int := (List.getD x.2.2.2.1 (Int.toNat v11) (0 : Int))
 let v13 : Int := (IntKind.wrap IntKind.i64 (x.1 - (15 : Int)))
 bif (decide (((0 : Int) ≤ v13) ∧ (v13 < ((64 : Nat) : Int)))) then (let v14 : Int := (List.getD x.2.2.2.1 (Int.toNat v13) (0 : Int))
 (Q0t k v12 (17 : Int)).bind fun t15 => (Q0t k v12 (19 : Int)).bind fun t16 => let v17 : Int := (Q1o BinOp.xor IntKind.u32 t15.1 t16.1)
 let v18 : Int := (Q2H IntKind.u32 v12 (10 : Int))
 (Q0t k v14 (7 : Int)).bind fun t19 => (Q0t k v14 (18 : Int)).bind fun t20 => let v21 : Int := (Q1o BinOp.xor IntKind.u32 t19.1 t20.1)
 let v22 : Int := (Q2H IntKind.u32 v14 (3 : Int))
 let v23 : Int := (IntKind.wrap IntKind.i64 (x.1 - (7 : Int)))
 bif (decide (((0 : Int) ≤ v23) ∧ (v23 < ((64 : Nat) : Int)))) then (let v24 : Int := (List.getD x.2.2.2.1 (Int.toNat v23) (0 : Int))
 let v25 : Int := (IntKind.wrap IntKind.u32 ((Q1o BinOp.xor IntKind.u32 v17 v18) + v24))
 let v26 : Int := (IntKind.wrap IntKind.u32 (v25 + (Q1o BinOp.xor IntKind.u32 v21 v22)))
 let v27 : Int := (IntKind.wrap IntKind.i64 (x.1 - (16 : Int)))
 bif (decide (((0 : Int) ≤ v27) ∧ (v27 < ((64 : Nat) : Int)))) then (let v28 : Int := (List.getD x.2.2.2.1 (Int.toNat v27) (0 : Int))
 let v29 : Int := (IntKind.wrap IntKind.u32 (v26 + v28))
 bif (decide (((0 : Int) ≤ x.1) ∧ (x.1 < ((64 : Nat) : Int)))) then (let v30 : Int := (IntKind.wrap IntKind.i64 (x.1 + (1 : Int)))
 kn (v30, (x.2.1, (x.2.2.1, ((List.set x.2.2.2.1 (Int.toNat x.1) v29), ()))))) else (none)) else (none)) else (none)) else (none)) else (none)) else (ke (x.2.1, (x.2.2.1, (x.2.2.2.1, ()))))
def Qh.l2 (k : Nat) : Nat → Qh.l2.σ → Option Qh.l2.τ := Q15 (Qh.l2.r k)
def Qh.l2.T : StT := ⟨us 2 ++ .ptr 1 [] :: .ptr 2 [] :: us 3 ++ .dat (.int .i64) :: us 75, [.dat Qeb, .dat Qe8, .dat Qe8]⟩
def Qh.l2.os : List Out := [⟨(.exit 4), [.mask [2, 3], .auto 1], ⟨us 2 ++ .ptr 1 [] :: .ptr 2 [] :: us 79, [.dat Qeb, .dat Qe8, .dat Qe8]⟩⟩]
abbrev Qh.τ : Type := ((List Int) × (List Int) × Unit)
def Qh.c (k : Nat) {ρ : Type} (b0 : (List Int)) (K : Qh.τ → Option ρ) : Option ρ :=
 (Qh.l0 k k ((0 : Int), (b0, ((List.replicate 64 (0 : Int)), ((List.replicate 64 (0 : Int)), ()))))).bind fun t10 => (Qh.l2 k k ((16 : Int), (t10.1, (t10.2.1, (t10.2.2.1, ()))))).bind fun t31 => let v32 : (List Int) := t31.2.2.1
 K (v32, (t31.1, ()))
def Qh (k : Nat) (b0 : (List Int)) : Option Qh.τ := Qh.c k b0 some
def Qh.T : Q19 := ⟨[.ptr 0 []], [.dat Qeb], 1⟩
def Qh.os : List Out := [⟨.ret, [.freeze (.slot 0), .auto 1], ⟨[.dat Qe8], [.dat Qeb]⟩⟩]
def Qh.sem (k : Nat) : Qj := Q1g Qh.T Qh.os fun x => Qh k x.1
noncomputable def Qh.ctx (k : Nat) : Ctx := ⟨Tryz.prog, gam [(172, (Q0t.sem k))]⟩
theorem Qh.gok (k : Nat) : ∀ f, Qb Tryz.prog f ((Qh.ctx k).Γ f) := (Q7 (Q0t.sem_ok k) QE)
theorem Qh.l1.round (k : Nat) : Q0V (Qh.ctx k) (Q0e (Func.code Tryz.f170) [1, 1, 0, 1, 0, 0, 1, 1, 0, 0, 1, 1, 0, 0]) (.nil) Qh.l1.T [.mask [0, 2, 3, 4, 12, 22, 23, 24], .auto 1] Qh.l1.os (Qh.l1.r k) := by
 intro ρ x kn ke; kernel_rfl
theorem Qh.l1.ok (k : Nat) : StOK 1 Tryz.prog (.loop (Q0e (Func.code Tryz.f170) [1, 1, 0, 1, 0, 0, 1, 1, 0, 0, 1, 1, 0, 0])) (Qv Qh.l1.T Qh.l1.os (Qh.l1 k k)) :=
 Q0X (C := Qh.ctx k) (Qh.gok k) Tryz.mix Q3.nil (by kernel_rfl) (by kernel_rfl) (by kernel_rfl) (Qh.l1.round k) k
theorem Qh.l2.round (k : Nat) : Q0V (Qh.ctx k) (Q0e (Func.code Tryz.f170) [1, 1, 1, 0, 1, 0, 0]) (.nil) Qh.l2.T [.mask [2, 3, 7], .auto 1] Qh.l2.os (Qh.l2.r k) := by
 intro ρ x kn ke; kernel_rfl
theorem Qh.l2.ok (k : Nat) : StOK 1 Tryz.prog (.loop (Q0e (Func.code Tryz.f170) [1, 1, 1, 0, 1, 0, 0])) (Qv Qh.l2.T Qh.l2.os (Qh.l2 k k)) :=
 Q0X (C := Qh.ctx k) (Qh.gok k) Tryz.mix Q3.nil (by kernel_rfl) (by kernel_rfl) (by kernel_rfl) (Qh.l2.round k) k
theorem Qh.l0.round (k : Nat) : Q0V (Qh.ctx k) (Q0e (Func.code Tryz.f170) [1, 1, 0, 1, 0, 0]) (.node [] none (.nil) (.node [] none (.nil) (.node [] none (.node [] none (.node [] none (.nil) (.node [] none (.nil) (.node [] none (.node [.mask [0, 2, 3, 4, 12, 22, 23, 24], .auto 1] (some (Qv Qh.l1.T Qh.l1.os (Qh.l1 k k))) .nil .nil) (.nil)))) (.nil)) (.nil)))) Qh.l0.T [.mask [0, 2, 3, 12], .auto 1] Qh.l0.os (Qh.l0.r k) := by
 intro ρ x kn ke; kernel_rfl
theorem Qh.l0.ok (k : Nat) : StOK 1 Tryz.prog (.loop (Q0e (Func.code Tryz.f170) [1, 1, 0, 1, 0, 0])) (Qv Qh.l0.T Qh.l0.os (Qh.l0 k k)) :=
 Q0X (C := Qh.ctx k) (Qh.gok k) Tryz.mix (Q3.seq Q3.nil (Q3.seq Q3.nil (Q3.seq (Q3.block (Q3.seq Q3.nil (Q3.seq Q3.nil (Q3.block (Q3.loop (by kernel_rfl) (Qh.l1.ok k)))))) Q3.nil))) (by kernel_rfl) (by kernel_rfl) (by kernel_rfl) (Qh.l0.round k) k
def Qh.ann (k : Nat) : Ann := .node [] none (.nil) (.node [] none (.nil) (.node [] none (.node [] none (.nil) (.node [] none (.node [.mask [0, 2, 3, 12], .auto 1] (some (Qv Qh.l0.T Qh.l0.os (Qh.l0 k k))) .nil .nil) (.nil))) (.node [] none (.node [] none (.nil) (.node [] none (.node [.mask [2, 3, 7], .auto 1] (some (Qv Qh.l2.T Qh.l2.os (Qh.l2 k k))) .nil .nil) (.nil))) (.nil))))
theorem Qh.body (k : Nat) : Q1l (Qh.ctx k) Tryz.f170 (Func.code Tryz.f170) (Qh.ann k) Qh.T Qh.os (fun x K => Qh.c k x.1 K) := by
 intro ρ x K; kernel_rfl
theorem Qh.sem_ok (k : Nat) : Qb Tryz.prog 170 (Qh.sem k) :=
 Q0P (C := Qh.ctx k) (Qh.gok k) Tryz.mix (c := Func.code Tryz.f170) (ann := Qh.ann k) (T := Qh.T) (os := Qh.os) (fun x K => Qh.c k x.1 K) Tryz.func170 (by kernel_rfl) (by kernel_rfl) (Q3.seq Q3.nil (Q3.seq Q3.nil (Q3.seq (Q3.seq Q3.nil (Q3.block (Q3.loop (by kernel_rfl) (Qh.l0.ok k)))) (Q3.seq (Q3.seq Q3.nil (Q3.block (Q3.loop (by kernel_rfl) (Qh.l2.ok k)))) Q3.nil)))) (Qh.body k) (by kernel_rfl) (by kernel_rfl) (by kernel_rfl)
abbrev Q0l.τ : Type := Qec 
def Q0l.c (k : Nat) {ρ : Type}  (K : Q0l.τ → Option ρ) : Option ρ :=
 let v0 : (List Int) := (List.set (List.set (List.set (List.set (List.set (List.set (List.set (List.set (List.set (List.set (List.set (List.set (List.set (List.set (List.set (List.set (List.set (List.set (List.set (List.set (List.set (List.set (List.set (List.set (List.set (List.set (List.set (List.set (List.set (List.set (List.set (List.set (List.set (List.set (List.set (List.set (List.set (List.set (List.set (List.set (List.set (List.set (List.set (List.set (List.set (List.set (List.set (List.set (List.set (List.set (List.set (List.set (List.set (List.set (List.set (List.set (List.set (List.set (List.set (List.set (List.set (List.set (List.set (List.set (List.replicate 64 (0 : Int)) 0 (1116352408 : Int)) 1 (1899447441 : Int)) 2 (3049323471 : Int)) 3 (3921009573 : Int)) 4 (961987163 : Int)) 5 (1508970993 : Int)) 6 (2453635748 : Int)) 7 (2870763221 : Int)) 8 (3624381080 : Int)) 9 (310598401 : Int)) 10 (607225278 : Int)) 11 (1426881987 : Int)) 12 (1925078388 : Int)) 13 (2162078206 : Int)) 14 (2614888103 : Int)) 15 (3248222580 : Int)) 16 (3835390401 : Int)) 17 (4022224774 : Int)) 18 (264347078 : Int)) 19 (604807628 : Int)) 20 (770255983 : Int)) 21 (1249150122 : Int)) 22 (1555081692 : Int)) 23 (1996064986 : Int)) 24 (2554220882 : Int)) 25 (2821834349 : Int)) 26 (2952996808 : Int)) 27 (3210313671 : Int)) 28 (3336571891 : Int)) 29 (3584528711 : Int)) 30 (113926993 : Int)) 31 (338241895 : Int)) 32 (666307205 : Int)) 33 (773529912 : Int)) 34 (1294757372 : Int)) 35 (1396182291 : Int)) 36 (1695183700 : Int)) 37 (1986661051 : Int)) 38 (2177026350 : Int)) 39 (2456956037 : Int)) 40 (2730485921 : Int)) 41 (2820302411 : Int)) 42 (3259730800 : Int)) 43 (3345764771 : Int)) 44 (3516065817 : Int)) 45 (3600352804 : Int)) 46 (4094571909 : Int)) 47 (275423344 : Int)) 48 (430227734 : Int)) 49 (506948616 : Int)) 50 (659060556 : Int)) 51 (883997877 : Int)) 52 (958139571 : Int)) 53 (1322822218 : Int)) 54 (1537002063 : Int)) 55 (1747873779 : Int)) 56 (1955562222 : Int)) 57 (2024104815 : Int)) 58 (2227730452 : Int)) 59 (2361852424 : Int)) 60 (2428436474 : Int)) 61 (2756734187 : Int)) 62 (3204031479 : Int)) 63 (3329325298 : Int))
 K (v0, ())
def Q0l (k : Nat)  : Option Q0l.τ := Q0l.c k  some
def Q0l.T : Q19 := ⟨[], [], 0⟩
def Q0l.os : List Out := [⟨.ret, [.auto 0], ⟨[.ptr 0 []], [.dat Qe8]⟩⟩]
def Q0l.sem (k : Nat) : Qj := Q1g Q0l.T Q0l.os fun x => Q0l k 
noncomputable def Q0l.ctx (k : Nat) : Ctx := ⟨Tryz.prog, gam []⟩
theorem Q0l.gok (k : Nat) : ∀ f, Qb Tryz.prog f ((Q0l.ctx k).Γ f) := QE
def Q0l.ann (k : Nat) : Ann := .nil
theorem Q0l.body (k : Nat) : Q1l (Q0l.ctx k) Tryz.f171 (Func.code Tryz.f171) (Q0l.ann k) Q0l.T Q0l.os (fun x K => Q0l.c k  K) := by
 intro ρ x K; kernel_rfl
theorem Q0l.sem_ok (k : Nat) : Qb Tryz.prog 171 (Q0l.sem k) :=
 Q0P (C := Q0l.ctx k) (Q0l.gok k) Tryz.mix (c := Func.code Tryz.f171) (ann := Q0l.ann k) (T := Q0l.T) (os := Q0l.os) (fun x K => Q0l.c k  K) Tryz.func171 (by kernel_rfl) (by kernel_rfl) Q3.nil (Q0l.body k) (by kernel_rfl) (by kernel_rfl) (by kernel_rfl)
abbrev QD.l0.σ : Type := Int × (List Int) × (List Int) × (List Int) × (List Int) × (List Int) × Unit
abbrev QD.l0.τ : Type := Qe4 
def QD.l0.r (k : Nat) {ρ : Type} (x : QD.l0.σ) (kn : QD.l0.σ → Option ρ) (ke : QD.l0.τ → Option ρ) : Option ρ :=
 bif (decide (x.1 < (64 : Int))) then (let v2 : Int := (List.getD x.2.2.2.2.2.1 0 (0 : Int))
 let v3 : Int := (List.getD x.2.2.2.2.2.1 4 (0 : Int))
 (Q0t k v3 (6 : Int)).bind fun t4 => (Q0t k v3 (11 : Int)).bind fun t5 => let v6 : Int := (Q1o BinOp.xor IntKind.u32 t4.1 t5.1)
 (Q0t k v3 (25 : Int)).bind fun t7 => let v8 : Int := (Q1o BinOp.xor IntKind.u32 v6 t7.1)
 (Q0t k v2 (2 : Int)).bind fun t9 => (Q0t k v2 (13 : Int)).bind fun t10 => let v11 : Int := (Q1o BinOp.xor IntKind.u32 t9.1 t10.1)
 (Q0t k v2 (22 : Int)).bind fun t12 => let v13 : Int := (Q1o BinOp.xor IntKind.u32 v11 t12.1)
 let v14 : Int := (List.getD x.2.2.2.2.2.1 5 (0 : Int))
 let v15 : Int := (List.getD x.2.2.2.2.2.1 6 (0 : Int))
 let v16 : Int := (Q1o BinOp.xor IntKind.u32 (Q1o BinOp.and IntKind.u32 v3 v14) (Q1o BinOp.and IntKind.u32 (notI IntKind.u32 v3) v15))
 let v17 : Int := (List.getD x.2.2.2.2.2.1 1 (0 : Int))
 let v18 : Int := (List.getD x.2.2.2.2.2.1 2 (0 : Int))
 let v19 : Int := (Q1o BinOp.xor IntKind.u32 (Q1o BinOp.and IntKind.u32 v2 v17) (Q1o BinOp.and IntKind.u32 v2 v18))
 let v20 : Int := (List.getD x.2.2.2.2.2.1 1 (0 : Int))
 let v21 : Int := (List.getD x.2.2.2.2.2.1 2 (0 : Int))
 let v22 : Int := (Q1o BinOp.xor IntKind.u32 v19 (Q1o BinOp.and IntKind.u32 v20 v21))
 let v23 : Int := (List.getD x.2.2.2.2.2.1 7 (0 : Int))
 let v24 : Int := (IntKind.wrap IntKind.u32 (v23 + v8))
 let v25 : Int := (IntKind.wrap IntKind.u32 (v24 + v16))
 bif (decide (((0 : Int) ≤ x.1) ∧ (x.1 < ((64 : Nat) : Int)))) then (let v26 : Int := (List.getD x.2.2.2.2.1 (Int.toNat x.1) (0 : Int))
 let v27 : Int := (IntKind.wrap IntKind.u32 (v25 + v26))
 bif (decide (((0 : Int) ≤ x.1) ∧ (x.1 < ((64 : Nat) : Int)))) then (let v28 : Int := (List.getD x.2.2.2.1 (Int.toNat x.1) (0 : Int))
 let v29 : Int := (IntKind.wrap IntKind.u32 (v27 + v28))
 let v30 : Int := (IntKind.wrap IntKind.u32 (v29 + v13))
 let v31 : Int := (IntKind.wrap IntKind.u32 (v30 + v22))
 let v32 : Int := (List.getD x.2.2.2.2.2.1 0 (0 : Int))
 let v33 : Int := (List.getD x.2.2.2.2.2.1 1 (0 : Int))
 let v34 : Int := (List.getD x.2.2.2.2.2.1 2 (0 : Int))
 let v35 : Int := (List.getD x.2.2.2.2.2.1 3 (0 : Int))
 let v36 : Int := (IntKind.wrap IntKind.u32 (v35 + v29))
 let v37 : Int := (List.getD x.2.2.2.2.2.1 4 (0 : Int))
 let v38 : Int := (List.getD x.2.2.2.2.2.1 5 (0 : Int))
 let v39 : Int := (List.getD x.2.2.2.2.2.1 6 (0 : Int))
 let v40 : (List Int) := (List.set (List.set (List.set (List.set (List.set (List.set (List.set (List.set (List.replicate 8 (0 : Int)) 0 v31) 1 v32) 2 v33) 3 v34) 4 v36) 5 v37) 6 v38) 7 v39)
 let v41 : Int := (IntKind.wrap IntKind.i64 (x.1 + (1 : Int)))
 kn (v41, (x.2.1, (x.2.2.1, (x.2.2.2.1, (x.2.2.2.2.1, (v40, ()))))))) else (none)) else (none)) else (ke (x.2.1, (x.2.2.1, (x.2.2.2.2.2.1, ()))))
def QD.l0 (k : Nat) : Nat → QD.l0.σ → Option QD.l0.τ := Q15 (QD.l0.r k)
def QD.l0.T : StT := ⟨us 2 ++ .ptr 0 [] :: us 1 ++ .ptr 1 [] :: .ptr 2 [] :: .ptr 3 [] :: .ptr 4 [] :: us 12 ++ .dat (.int .i64) :: us 99, [.dat Qea, .dat Qea, .dat Qe8, .dat Qe8, .dat Qea]⟩
def QD.l0.os : List Out := [⟨(.exit 0), [.mask [2, 4, 7], .auto 0], ⟨us 2 ++ .ptr 0 [] :: us 1 ++ .ptr 1 [] :: us 2 ++ .ptr 2 [] :: us 112, [.dat Qea, .dat Qea, .dat Qea]⟩⟩]
abbrev QD.l1.σ : Type := Int × (List Int) × (List Int) × (List Int) × Unit
abbrev QD.l1.τ : Type := ((List Int) × (List Int) × Unit)
def QD.l1.r (k : Nat) {ρ : Type} (x : QD.l1.σ) (kn : QD.l1.σ → Option ρ) (ke : QD.l1.τ → Option ρ) : Option ρ :=
 bif (decide (x.1 < (8 : Int))) then (bif (decide (((0 : Int) ≤ x.1) ∧ (x.1 < ((8 : Nat) : Int)))) then (let v43 : Int := (List.getD x.2.2.2.1 (Int.toNat x.1) (0 : Int))
 bif (decide (((0 : Int) ≤ x.1) ∧ (x.1 < ((8 : Nat) : Int)))) then (let v44 : Int := (List.getD x.2.1 (Int.toNat x.1) (0 : Int))
 let v45 : Int := (IntKind.wrap IntKind.u32 (v43 + v44))
 bif (decide (((0 : Int) ≤ x.1) ∧ (x.1 < ((8 : Nat) : Int)))) then (let v46 : Int := (IntKind.wrap IntKind.i64 (x.1 + (1 : Int)))
 kn (v46, (x.2.1, (x.2.2.1, ((List.set x.2.2.2.1 (Int.toNat x.1) v45), ()))))) else (none)) else (none)) else (none)) else (ke (x.2.2.1, (x.2.2.2.1, ())))
def QD.l1 (k : Nat) : Nat → QD.l1.σ → Option QD.l1.τ := Q15 (QD.l1.r k)
def QD.l1.T : StT := ⟨us 2 ++ .ptr 0 [] :: us 1 ++ .ptr 1 [] :: us 2 ++ .ptr 2 [] :: us 99 ++ .dat (.int .i64) :: us 12, [.dat Qea, .dat Qea, .dat Qea]⟩
def QD.l1.os : List Out := [⟨(.exit 2), [.mask [4, 7], .auto 0], ⟨us 4 ++ .ptr 0 [] :: us 2 ++ .ptr 1 [] :: us 112, [.dat Qea, .dat Qea]⟩⟩]
def QD.c (k : Nat) {ρ : Type} (x_0 : (List Int)) (block : (List Int)) (K : (List Int) × Unit → Option ρ) : Option ρ :=
 (Qh k block).bind fun t0 => (Q0l k ).bind fun t1 => (QD.l0 k k ((0 : Int), (x_0, ((List.replicate 8 (0 : Int)), (t0.1, (t1.1, (x_0, ()))))))).bind fun t42 => (QD.l1 k k ((0 : Int), (t42.1, (t42.2.1, (t42.2.2.1, ()))))).bind fun t47 => let v48 : (List Int) := t47.2.1
 K (v48, ())
def QD (k : Nat) (x_0 : (List Int)) (block : (List Int)) : Option Qec := QD.c k x_0 block some
def QD.tin : List Ty := [Qea, Qeb]
def QD.tout : List Ty := [Qea]
def QD.sem (k : Nat) : Qj := Qn QD.tin QD.tout fun x => QD k x.1 x.2.1
noncomputable def QD.ctx (k : Nat) : Ctx := ⟨Tryz.prog, gam [(170, (Qh.sem k)), (171, (Q0l.sem k)), (172, (Q0t.sem k))]⟩
theorem QD.gok (k : Nat) : ∀ f, Qb Tryz.prog f ((QD.ctx k).Γ f) := (Q7 (Qh.sem_ok k) (Q7 (Q0l.sem_ok k) (Q7 (Q0t.sem_ok k) QE)))
theorem QD.l1.round (k : Nat) : Q0V (QD.ctx k) (Q0e (Func.code Tryz.f152) [1, 1, 1, 1, 0, 1, 0, 0]) (.nil) QD.l1.T [.mask [2, 4, 7, 107], .auto 0] QD.l1.os (QD.l1.r k) := by
 intro ρ x kn ke; kernel_rfl
theorem QD.l1.ok (k : Nat) : StOK 0 Tryz.prog (.loop (Q0e (Func.code Tryz.f152) [1, 1, 1, 1, 0, 1, 0, 0])) (Qv QD.l1.T QD.l1.os (QD.l1 k k)) :=
 Q0X (C := QD.ctx k) (QD.gok k) Tryz.mix Q3.nil (by kernel_rfl) (by kernel_rfl) (by kernel_rfl) (QD.l1.round k) k
theorem QD.l0.round (k : Nat) : Q0V (QD.ctx k) (Q0e (Func.code Tryz.f152) [1, 1, 1, 0, 1, 0, 0]) (.nil) QD.l0.T [.mask [2, 4, 5, 6, 7, 20], .auto 0] QD.l0.os (QD.l0.r k) := by
 intro ρ x kn ke; kernel_rfl
theorem QD.l0.ok (k : Nat) : StOK 0 Tryz.prog (.loop (Q0e (Func.code Tryz.f152) [1, 1, 1, 0, 1, 0, 0])) (Qv QD.l0.T QD.l0.os (QD.l0 k k)) :=
 Q0X (C := QD.ctx k) (QD.gok k) Tryz.mix Q3.nil (by kernel_rfl) (by kernel_rfl) (by kernel_rfl) (QD.l0.round k) k
def QD.ann (k : Nat) : Ann := .node [] none (.nil) (.node [] none (.nil) (.node [] none (.nil) (.node [] none (.node [] none (.nil) (.node [] none (.node [.mask [2, 4, 5, 6, 7, 20], .auto 0] (some (Qv QD.l0.T QD.l0.os (QD.l0 k k))) .nil .nil) (.nil))) (.node [] none (.node [] none (.nil) (.node [] none (.node [.mask [2, 4, 7, 107], .auto 0] (some (Qv QD.l1.T QD.l1.os (QD.l1 k k))) .nil .nil) (.nil))) (.nil)))))
theorem QD.body (k : Nat) : Q0M (QD.ctx k) Tryz.f152 (Func.code Tryz.f152) (QD.ann k) QD.tin QD.tout (fun x K => QD.c k x.1 x.2.1 K) := by
 intro ρ x K; kernel_rfl
theorem QD.sem_ok (k : Nat) : Qb Tryz.prog 152 (QD.sem k) :=
 Qs (C := QD.ctx k) (QD.gok k) Tryz.mix (c := Func.code Tryz.f152) (ann := QD.ann k) (tin := QD.tin) (tout := QD.tout) (fun x K => QD.c k x.1 x.2.1 K) Tryz.func152 (by kernel_rfl) (by kernel_rfl) (Q3.seq Q3.nil (Q3.seq Q3.nil (Q3.seq Q3.nil (Q3.seq (Q3.seq Q3.nil (Q3.block (Q3.loop (by kernel_rfl) (QD.l0.ok k)))) (Q3.seq (Q3.seq Q3.nil (Q3.block (Q3.loop (by kernel_rfl) (QD.l1.ok k)))) Q3.nil))))) (QD.body k)
abbrev Qf.l0.σ : Type := Qe5 × (List Int) × Unit
abbrev Qf.l0.τ : Type := Qe2 
def Qf.l0.r (k : Nat) {ρ : Type} (x : Qf.l0.σ) (kn : Qf.l0.σ → Option ρ) (ke : Qf.l0.τ → Option ρ) : Option ρ :=
 let v2 : Int := (((List.length x.2.1) : Nat) : Int)
 bif (decide (v2 ≥ (64 : Int))) then (let v3 : (List Int) := x.1.1
 bif (decide (64 ≤ (List.length x.2.1))) then (let v4 : (List Int) := (List.take 64 (List.drop 0 x.2.1))
 (QD k v3 v4).bind fun t5 => bif (decide (((0 : Int) ≤ (64 : Int)) ∧ (((64 : Int) ≤ (((List.length x.2.1) : Nat) : Int)) ∧ ((((List.length x.2.1) : Nat) : Int) ≤ (((List.length x.2.1) : Nat) : Int))))) then (kn ((t5.1, ((), (x.1.2.2.1, ()))), ((List.take (Int.toNat ((((List.length x.2.1) : Nat) : Int) - (64 : Int))) (List.drop 64 x.2.1)), ()))) else (none)) else (none)) else (ke ((x.1.1, ((), (x.1.2.2.1, ()))), (x.2.1, ())))
def Qf.l0 (k : Nat) : Nat → Qf.l0.σ → Option Qf.l0.τ := Q15 (Qf.l0.r k)
def Qf.l0.T : StT := ⟨.ptr 0 [] :: us 52, [.pair (.dat Qea) (.pair (.vsl 1) (.dat Qe7)), .vec (.int .u8)]⟩
def Qf.l0.os : List Out := [⟨(.exit 0), [.mask [], .auto 1], ⟨us 53, [.pair (.dat Qea) (.pair (.vsl 1) (.dat Qe7)), .vec (.int .u8)]⟩⟩]
abbrev Qf.τ : Type := Qe2 
def Qf.c (k : Nat) {ρ : Type} (s : ByteArray) (b0 : Qe5) (K : Qf.τ → Option ρ) : Option ρ :=
 let v0 : Int := b0.2.2.1
 let v1 : Int := (IntKind.wrap IntKind.u64 (v0 + (IntKind.wrap IntKind.u64 (((ByteArray.size s) : Nat) : Int))))
 bif (Nat.ble ((List.length (Q1x s)) * 1) 140737488355328) then ((Qf.l0 k k ((b0.1, ((), (v1, ()))), ((Q1x s), ()))).bind fun t6 => K ((t6.1.1, ((), (t6.1.2.2.1, ()))), (t6.2.1, ()))) else (none)
def Qf (k : Nat) (s : ByteArray) (b0 : Qe5) : Option Qf.τ := Qf.c k s b0 some
def Qf.T : Q19 := ⟨[.ptr 0 [], .dat .str], [.pair (.dat Qea) (.pair (.nils) (.dat Qe7))], 1⟩
def Qf.os : List Out := [⟨.ret, [.auto 1], ⟨[], [.pair (.dat Qea) (.pair (.vsl 1) (.dat Qe7)), .vec (.int .u8)]⟩⟩]
def Qf.sem (k : Nat) : Qj := Q1g Qf.T Qf.os fun x => Qf k x.1 x.2.1
noncomputable def Qf.ctx (k : Nat) : Ctx := ⟨Tryz.prog, gam [(152, (QD.sem k))]⟩
theorem Qf.gok (k : Nat) : ∀ f, Qb Tryz.prog f ((Qf.ctx k).Γ f) := (Q7 (QD.sem_ok k) QE)
theorem Qf.l0.round (k : Nat) : Q0V (Qf.ctx k) (Q0e (Func.code Tryz.f129) [1, 1, 1, 0, 0]) (.nil) Qf.l0.T [.mask [0], .auto 1] Qf.l0.os (Qf.l0.r k) := by
 intro ρ x kn ke; kernel_rfl
theorem Qf.l0.ok (k : Nat) : StOK 1 Tryz.prog (.loop (Q0e (Func.code Tryz.f129) [1, 1, 1, 0, 0])) (Qv Qf.l0.T Qf.l0.os (Qf.l0 k k)) :=
 Q0X (C := Qf.ctx k) (Qf.gok k) Tryz.mix Q3.nil (by kernel_rfl) (by kernel_rfl) (by kernel_rfl) (Qf.l0.round k) k
def Qf.ann (k : Nat) : Ann := .node [] none (.nil) (.node [] none (.nil) (.node [] none (.nil) (.node [] none (.node [.mask [0], .auto 1] (some (Qv Qf.l0.T Qf.l0.os (Qf.l0 k k))) .nil .nil) (.nil))))
theorem Qf.body (k : Nat) : Q1l (Qf.ctx k) Tryz.f129 (Func.code Tryz.f129) (Qf.ann k) Qf.T Qf.os (fun x K => Qf.c k x.1 x.2.1 K) := by
 intro ρ x K; kernel_rfl
theorem Qf.sem_ok (k : Nat) : Qb Tryz.prog 129 (Qf.sem k) :=
 Q0P (C := Qf.ctx k) (Qf.gok k) Tryz.mix (c := Func.code Tryz.f129) (ann := Qf.ann k) (T := Qf.T) (os := Qf.os) (fun x K => Qf.c k x.1 x.2.1 K) Tryz.func129 (by kernel_rfl) (by kernel_rfl) (Q3.seq Q3.nil (Q3.seq Q3.nil (Q3.seq Q3.nil (Q3.block (Q3.loop (by kernel_rfl) (Qf.l0.ok k)))))) (Qf.body k) (by kernel_rfl) (by kernel_rfl) (by kernel_rfl)
abbrev QX.τ : Type := (Qe5 × (List Int) × Qe5 × (List Int) × Unit)
def QX.c (k : Nat) {ρ : Type} (b0 : Qe5) (b1 : (List Int)) (K : QX.τ → Option ρ) : Option ρ :=
 let v0 : (List Int) := b0.1
 bif (Nat.ble ((List.length b1) * 1) 140737488355328) then (let v1 : Int := b0.2.2.1
 K ((b0.1, ((), (b0.2.2.1, ()))), (b1, ((v0, ((), (v1, ()))), (b1, ()))))) else (none)
def QX (k : Nat) (b0 : Qe5) (b1 : (List Int)) : Option QX.τ := QX.c k b0 b1 some
def QX.T : Q19 := ⟨[.ptr 0 []], [.pair (.dat Qea) (.pair (.vsl 1) (.dat Qe7)), .vec (.int .u8)], 1⟩
def QX.os : List Out := [⟨.ret, [.auto 1], ⟨[.ptr 2 []], [.pair (.dat Qea) (.pair (.vsl 1) (.dat Qe7)), .vec (.int .u8), .pair (.dat Qea) (.pair (.vsl 3) (.dat Qe7)), .vec (.int .u8)]⟩⟩]
def QX.sem (k : Nat) : Qj := Q1g QX.T QX.os fun x => QX k x.1 x.2.1
noncomputable def QX.ctx (k : Nat) : Ctx := ⟨Tryz.prog, gam []⟩
theorem QX.gok (k : Nat) : ∀ f, Qb Tryz.prog f ((QX.ctx k).Γ f) := QE
def QX.ann (k : Nat) : Ann := .nil
theorem QX.body (k : Nat) : Q1l (QX.ctx k) Tryz.f153 (Func.code Tryz.f153) (QX.ann k) QX.T QX.os (fun x K => QX.c k x.1 x.2.1 K) := by
 intro ρ x K; kernel_rfl
theorem QX.sem_ok (k : Nat) : Qb Tryz.prog 153 (QX.sem k) :=
 Q0P (C := QX.ctx k) (QX.gok k) Tryz.mix (c := Func.code Tryz.f153) (ann := QX.ann k) (T := QX.T) (os := QX.os) (fun x K => QX.c k x.1 x.2.1 K) Tryz.func153 (by kernel_rfl) (by kernel_rfl) Q3.nil (QX.body k) (by kernel_rfl) (by kernel_rfl) (by kernel_rfl)
abbrev Q0E.l0.σ : Type := Int × Int × (List Int) × Unit
abbrev Q0E.l0.τ : Type := Qec 
def Q0E.l0.r (k : Nat) {ρ : Type} (x : Q0E.l0.σ) (kn : Q0E.l0.σ → Option ρ) (ke : Q0E.l0.τ → Option ρ) : Option ρ :=
 bif (decide (x.2.1 < (8 : Int))) then (let v5 : Int := (Q4p IntKind.u64 x.1 (3 : Int))
 let v6 : Int := (IntKind.wrap IntKind.i64 ((7 : Int) - x.2.1))
 let v7 : Int := (IntKind.wrap IntKind.i64 ((8 : Int) * v6))
 bif (decide ((0 : Int) ≤ v7)) then (bif (Nat.ble (((List.length x.2.2.1) + (List.length (List.set (List.replicate 1 (0 : Int)) 0 (IntKind.wrap IntKind.u8 (Q2H IntKind.u64 v5 v7))))) * 1) 140737488355328) then (let v8 : Int := (IntKind.wrap IntKind.i64 (x.2.1 + (1 : Int)))
 kn (x.1, (v8, ((x.2.2.1 ++ (List.set (List.replicate 1 (0 : Int)) 0 (IntKind.wrap IntKind.u8 (Q2H IntKind.u64 v5 v7)))), ())))) else (none)) else (none)) else (ke (x.2.2.1, ()))
def Q0E.l0 (k : Nat) : Nat → Q0E.l0.σ → Option Q0E.l0.τ := Q15 (Q0E.l0.r k)
def Q0E.l0.T : StT := ⟨.dat (.int .u64) :: us 3 ++ .vsl 0 :: us 14 ++ .dat (.int .i64) :: us 15, [.vec (.int .u8)]⟩
def Q0E.l0.os : List Out := [⟨(.exit 0), [.mask [4], .auto 0], ⟨us 4 ++ .vsl 0 :: us 30, [.vec (.int .u8)]⟩⟩]
def Q0E.c (k : Nat) {ρ : Type} (n : Int) (K : ByteArray × Unit → Option ρ) : Option ρ :=
 let v0 : Int := (IntKind.wrap IntKind.i64 (Int.tmod n (64 : Int)))
 let v1 : Int := (IntKind.wrap IntKind.i64 ((119 : Int) - v0))
 let v2 : Int := (IntKind.wrap IntKind.i64 ((1 : Int) + (Int.tmod v1 (64 : Int))))
 let v3 : Int := (IntKind.wrap IntKind.i64 ((1 : Int) + (Int.tmod v1 (64 : Int))))
 let v4 : Int := (IntKind.wrap IntKind.i64 (v3 + (8 : Int)))
 bif ((decide (((0 : Int) ≤ v2) ∧ (v2 ≤ v4))) && (Nat.ble ((Int.toNat v4) * 1) 140737488355328)) then (bif (decide (((0 : Int) ≤ (0 : Int)) ∧ ((0 : Int) < (((List.length (List.replicate (Int.toNat v2) (0 : Int))) : Nat) : Int)))) then ((Q0E.l0 k k (n, ((0 : Int), ((List.set (List.replicate (Int.toNat v2) (0 : Int)) 0 (128 : Int)), ())))).bind fun t9 => K ((bytesOf t9.1), ())) else (none)) else (none)
def Q0E (k : Nat) (n : Int) : Option (ByteArray × Unit) := Q0E.c k n some
def Q0E.tin : List Ty := [(.int .u64)]
def Q0E.tout : List Ty := [.str]
def Q0E.sem (k : Nat) : Qj := Qn Q0E.tin Q0E.tout fun x => Q0E k x.1
noncomputable def Q0E.ctx (k : Nat) : Ctx := ⟨Tryz.prog, gam []⟩
theorem Q0E.gok (k : Nat) : ∀ f, Qb Tryz.prog f ((Q0E.ctx k).Γ f) := QE
theorem Q0E.l0.round (k : Nat) : Q0V (Q0E.ctx k) (Q0e (Func.code Tryz.f154) [1, 1, 1, 1, 0, 1, 0, 0]) (.nil) Q0E.l0.T [.mask [0, 4, 19], .auto 0] Q0E.l0.os (Q0E.l0.r k) := by
 intro ρ x kn ke; kernel_rfl
theorem Q0E.l0.ok (k : Nat) : StOK 0 Tryz.prog (.loop (Q0e (Func.code Tryz.f154) [1, 1, 1, 1, 0, 1, 0, 0])) (Qv Q0E.l0.T Q0E.l0.os (Q0E.l0 k k)) :=
 Q0X (C := Q0E.ctx k) (Q0E.gok k) Tryz.mix Q3.nil (by kernel_rfl) (by kernel_rfl) (by kernel_rfl) (Q0E.l0.round k) k
def Q0E.ann (k : Nat) : Ann := .node [] none (.nil) (.node [] none (.nil) (.node [] none (.nil) (.node [] none (.nil) (.node [] none (.node [] none (.nil) (.node [] none (.node [.mask [0, 4, 19], .auto 0] (some (Qv Q0E.l0.T Q0E.l0.os (Q0E.l0 k k))) .nil .nil) (.nil))) (.nil)))))
theorem Q0E.body (k : Nat) : Q0M (Q0E.ctx k) Tryz.f154 (Func.code Tryz.f154) (Q0E.ann k) Q0E.tin Q0E.tout (fun x K => Q0E.c k x.1 K) := by
 intro ρ x K; kernel_rfl
theorem Q0E.sem_ok (k : Nat) : Qb Tryz.prog 154 (Q0E.sem k) :=
 Qs (C := Q0E.ctx k) (Q0E.gok k) Tryz.mix (c := Func.code Tryz.f154) (ann := Q0E.ann k) (tin := Q0E.tin) (tout := Q0E.tout) (fun x K => Q0E.c k x.1 K) Tryz.func154 (by kernel_rfl) (by kernel_rfl) (Q3.seq Q3.nil (Q3.seq Q3.nil (Q3.seq Q3.nil (Q3.seq Q3.nil (Q3.seq (Q3.seq Q3.nil (Q3.block (Q3.loop (by kernel_rfl) (Q0E.l0.ok k)))) Q3.nil))))) (Q0E.body k)
abbrev Qc.l0.σ : Type := Qe5 × (List Int) × Unit
abbrev Qc.l0.τ : Type := Qe2 
def Qc.l0.r (k : Nat) {ρ : Type} (x : Qc.l0.σ) (kn : Qc.l0.σ → Option ρ) (ke : Qc.l0.τ → Option ρ) : Option ρ :=
 let v2 : Int := (((List.length x.2.1) : Nat) : Int)
 bif (decide (v2 ≥ (64 : Int))) then (let v3 : (List Int) := x.1.1
 bif (decide (64 ≤ (List.length x.2.1))) then (let v4 : (List Int) := (List.take 64 (List.drop 0 x.2.1))
 (QD k v3 v4).bind fun t5 => bif (decide (((0 : Int) ≤ (64 : Int)) ∧ (((64 : Int) ≤ (((List.length x.2.1) : Nat) : Int)) ∧ ((((List.length x.2.1) : Nat) : Int) ≤ (((List.length x.2.1) : Nat) : Int))))) then (kn ((t5.1, ((), (x.1.2.2.1, ()))), ((List.take (Int.toNat ((((List.length x.2.1) : Nat) : Int) - (64 : Int))) (List.drop 64 x.2.1)), ()))) else (none)) else (none)) else (ke ((x.1.1, ((), (x.1.2.2.1, ()))), (x.2.1, ())))
def Qc.l0 (k : Nat) : Nat → Qc.l0.σ → Option Qc.l0.τ := Q15 (Qc.l0.r k)
def Qc.l0.T : StT := ⟨.ptr 0 [] :: us 52, [.pair (.dat Qea) (.pair (.vsl 1) (.dat Qe7)), .vec (.int .u8)]⟩
def Qc.l0.os : List Out := [⟨(.exit 0), [.mask [], .auto 1], ⟨us 53, [.pair (.dat Qea) (.pair (.vsl 1) (.dat Qe7)), .vec (.int .u8)]⟩⟩]
abbrev Qc.τ : Type := Qe2 
def Qc.c (k : Nat) {ρ : Type} (s : ByteArray) (b0 : Qe5) (b1 : (List Int)) (K : Qc.τ → Option ρ) : Option ρ :=
 let v0 : Int := b0.2.2.1
 let v1 : Int := (IntKind.wrap IntKind.u64 (v0 + (IntKind.wrap IntKind.u64 (((ByteArray.size s) : Nat) : Int))))
 bif (Nat.ble (((List.length b1) + (List.length (Q1x s))) * 1) 140737488355328) then ((Qc.l0 k k ((b0.1, ((), (v1, ()))), ((b1 ++ (Q1x s)), ()))).bind fun t6 => K ((t6.1.1, ((), (t6.1.2.2.1, ()))), (t6.2.1, ()))) else (none)
def Qc (k : Nat) (s : ByteArray) (b0 : Qe5) (b1 : (List Int)) : Option Qc.τ := Qc.c k s b0 b1 some
def Qc.T : Q19 := ⟨[.ptr 0 [], .dat .str], [.pair (.dat Qea) (.pair (.vsl 1) (.dat Qe7)), .vec (.int .u8)], 1⟩
def Qc.os : List Out := [⟨.ret, [.auto 1], ⟨[], [.pair (.dat Qea) (.pair (.vsl 1) (.dat Qe7)), .vec (.int .u8)]⟩⟩]
def Qc.sem (k : Nat) : Qj := Q1g Qc.T Qc.os fun x => Qc k x.1 x.2.1 x.2.2.1
noncomputable def Qc.ctx (k : Nat) : Ctx := ⟨Tryz.prog, gam [(152, (QD.sem k))]⟩
theorem Qc.gok (k : Nat) : ∀ f, Qb Tryz.prog f ((Qc.ctx k).Γ f) := (Q7 (QD.sem_ok k) QE)
theorem Qc.l0.round (k : Nat) : Q0V (Qc.ctx k) (Q0e (Func.code Tryz.f129) [1, 1, 1, 0, 0]) (.nil) Qc.l0.T [.mask [0], .auto 1] Qc.l0.os (Qc.l0.r k) := by
 intro ρ x kn ke; kernel_rfl
theorem Qc.l0.ok (k : Nat) : StOK 1 Tryz.prog (.loop (Q0e (Func.code Tryz.f129) [1, 1, 1, 0, 0])) (Qv Qc.l0.T Qc.l0.os (Qc.l0 k k)) :=
 Q0X (C := Qc.ctx k) (Qc.gok k) Tryz.mix Q3.nil (by kernel_rfl) (by kernel_rfl) (by kernel_rfl) (Qc.l0.round k) k
def Qc.ann (k : Nat) : Ann := .node [] none (.nil) (.node [] none (.nil) (.node [] none (.nil) (.node [] none (.node [.mask [0], .auto 1] (some (Qv Qc.l0.T Qc.l0.os (Qc.l0 k k))) .nil .nil) (.nil))))
theorem Qc.body (k : Nat) : Q1l (Qc.ctx k) Tryz.f129 (Func.code Tryz.f129) (Qc.ann k) Qc.T Qc.os (fun x K => Qc.c k x.1 x.2.1 x.2.2.1 K) := by
 intro ρ x K; kernel_rfl
theorem Qc.sem_ok (k : Nat) : Qb Tryz.prog 129 (Qc.sem k) :=
 Q0P (C := Qc.ctx k) (Qc.gok k) Tryz.mix (c := Func.code Tryz.f129) (ann := Qc.ann k) (T := Qc.T) (os := Qc.os) (fun x K => Qc.c k x.1 x.2.1 x.2.2.1 K) Tryz.func129 (by kernel_rfl) (by kernel_rfl) (Q3.seq Q3.nil (Q3.seq Q3.nil (Q3.seq Q3.nil (Q3.block (Q3.loop (by kernel_rfl) (Qc.l0.ok k)))))) (Qc.body k) (by kernel_rfl) (by kernel_rfl) (by kernel_rfl)
abbrev Q6.l1.σ : Type := Int × Int × (List Int) × Int × Int × Qe5 × (List Int) × (List Int) × (List Int) × Unit
abbrev Q6.l1.τ : Type := ((List Int) × Int × Qe5 × (List Int) × (List Int) × (List Int) × Unit)
def Q6.l1.r (k : Nat) {ρ : Type} (x : Q6.l1.σ) (kn : Q6.l1.σ → Option ρ) (ke : Q6.l1.τ → Option ρ) : Option ρ :=
 bif (decide (x.2.2.2.2.1 < (4 : Int))) then (let v6 : Int := (IntKind.wrap IntKind.i64 ((4 : Int) * x.1))
 let v7 : Int := (IntKind.wrap IntKind.i64 (v6 + x.2.2.2.2.1))
 let v8 : Int := (IntKind.wrap IntKind.i64 ((3 : Int) - x.2.2.2.2.1))
 let v9 : Int := (IntKind.wrap IntKind.i64 ((8 : Int) * v8))
 bif (decide ((0 : Int) ≤ v9)) then (let v10 : Int := (Q2H IntKind.u32 x.2.1 v9)
 bif (decide (((0 : Int) ≤ v7) ∧ (v7 < ((32 : Nat) : Int)))) then (let v11 : Int := (IntKind.wrap IntKind.i64 (x.2.2.2.2.1 + (1 : Int)))
 kn (x.1, (x.2.1, (x.2.2.1, (x.2.2.2.1, (v11, ((x.2.2.2.2.2.1.1, ((), (x.2.2.2.2.2.1.2.2.1, ()))), (x.2.2.2.2.2.2.1, (x.2.2.2.2.2.2.2.1, ((List.set x.2.2.2.2.2.2.2.2.1 (Int.toNat v7) (IntKind.wrap IntKind.u8 v10)), ())))))))))) else (none)) else (none)) else (ke (x.2.2.1, (x.2.2.2.1, ((x.2.2.2.2.2.1.1, ((), (x.2.2.2.2.2.1.2.2.1, ()))), (x.2.2.2.2.2.2.1, (x.2.2.2.2.2.2.2.1, (x.2.2.2.2.2.2.2.2.1, ())))))))
def Q6.l1 (k : Nat) : Nat → Q6.l1.σ → Option Q6.l1.τ := Q15 (Q6.l1.r k)
def Q6.l1.T : StT := ⟨us 2 ++ .ptr 2 [] :: us 1 ++ .ptr 3 [] :: .dat (.int .i64) :: .dat (.int .u32) :: us 17 ++ .dat Qea :: .dat (.int .i64) :: us 3 ++ .dat (.int .i64) :: us 16, [.pair (.dat Qea) (.pair (.vsl 1) (.dat Qe7)), .vec (.int .u8), .dat Qe9, .dat Qe9]⟩
def Q6.l1.os : List Out := [⟨(.exit 2), [.mask [2, 4, 24, 25], .auto 1], ⟨us 2 ++ .ptr 2 [] :: us 1 ++ .ptr 3 [] :: us 19 ++ .dat Qea :: .dat (.int .i64) :: us 20, [.pair (.dat Qea) (.pair (.vsl 1) (.dat Qe7)), .vec (.int .u8), .dat Qe9, .dat Qe9]⟩⟩]
abbrev Q6.l0.σ : Type := (List Int) × Int × Qe5 × (List Int) × (List Int) × (List Int) × Unit
abbrev Q6.l0.τ : Type := (Qe5 × (List Int) × (List Int) × (List Int) × Unit)
def Q6.l0.r (k : Nat) {ρ : Type} (x : Q6.l0.σ) (kn : Q6.l0.σ → Option ρ) (ke : Q6.l0.τ → Option ρ) : Option ρ :=
 bif (decide (x.2.1 < (8 : Int))) then (bif (decide (((0 : Int) ≤ x.2.1) ∧ (x.2.1 < ((8 : Nat) : Int)))) then (let v5 : Int := (List.getD x.1 (Int.toNat x.2.1) (0 : Int))
 (Q6.l1 k k (x.2.1, (v5, (x.1, (x.2.1, ((0 : Int), ((x.2.2.1.1, ((), (x.2.2.1.2.2.1, ()))), (x.2.2.2.1, (x.2.2.2.2.1, (x.2.2.2.2.2.1, ())))))))))).bind fun t12 => let v13 : Int := (IntKind.wrap IntKind.i64 (t12.2.1 + (1 : Int)))
 kn (t12.1, (v13, ((t12.2.2.1.1, ((), (t12.2.2.1.2.2.1, ()))), (t12.2.2.2.1, (t12.2.2.2.2.1, (t12.2.2.2.2.2.1, ()))))))) else (none)) else (ke ((x.2.2.1.1, ((), (x.2.2.1.2.2.1, ()))), (x.2.2.2.1, (x.2.2.2.2.1, (x.2.2.2.2.2.1, ())))))
def Q6.l0 (k : Nat) : Nat → Q6.l0.σ → Option Q6.l0.τ := Q15 (Q6.l0.r k)
def Q6.l0.T : StT := ⟨us 2 ++ .ptr 2 [] :: us 1 ++ .ptr 3 [] :: us 19 ++ .dat Qea :: .dat (.int .i64) :: us 20, [.pair (.dat Qea) (.pair (.vsl 1) (.dat Qe7)), .vec (.int .u8), .dat Qe9, .dat Qe9]⟩
def Q6.l0.os : List Out := [⟨(.exit 0), [.mask [2, 4], .auto 1], ⟨us 2 ++ .ptr 2 [] :: us 1 ++ .ptr 3 [] :: us 41, [.pair (.dat Qea) (.pair (.vsl 1) (.dat Qe7)), .vec (.int .u8), .dat Qe9, .dat Qe9]⟩⟩]
abbrev Q6.τ : Type := ((List Int) × Qe5 × (List Int) × Unit)
def Q6.c (k : Nat) {ρ : Type} (b0 : Qe5) (b1 : (List Int)) (K : Q6.τ → Option ρ) : Option ρ :=
 (QX k (b0.1, ((), (b0.2.2.1, ()))) b1).bind fun t0 => let v1 : Int := t0.1.2.2.1
 (Q0E k v1).bind fun t2 => (Qc k t2.1 (t0.2.2.1.1, ((), (t0.2.2.1.2.2.1, ()))) t0.2.2.2.1).bind fun t3 => let v4 : (List Int) := t3.1.1
 (Q6.l0 k k (v4, ((0 : Int), ((t0.1.1, ((), (t0.1.2.2.1, ()))), (t0.2.1, ((List.replicate 32 (0 : Int)), ((List.replicate 32 (0 : Int)), ()))))))).bind fun t14 => let v15 : (List Int) := t14.2.2.2.1
 K (v15, ((t14.1.1, ((), (t14.1.2.2.1, ()))), (t14.2.1, ())))
def Q6 (k : Nat) (b0 : Qe5) (b1 : (List Int)) : Option Q6.τ := Q6.c k b0 b1 some
def Q6.T : Q19 := ⟨[.ptr 0 []], [.pair (.dat Qea) (.pair (.vsl 1) (.dat Qe7)), .vec (.int .u8)], 1⟩
def Q6.os : List Out := [⟨.ret, [.freeze (.slot 0), .auto 1], ⟨[.dat Qe9], [.pair (.dat Qea) (.pair (.vsl 1) (.dat Qe7)), .vec (.int .u8)]⟩⟩]
def Q6.sem (k : Nat) : Qj := Q1g Q6.T Q6.os fun x => Q6 k x.1 x.2.1
noncomputable def Q6.ctx (k : Nat) : Ctx := ⟨Tryz.prog, gam [(153, (QX.sem k)), (154, (Q0E.sem k)), (129, (Qc.sem k))]⟩
theorem Q6.gok (k : Nat) : ∀ f, Qb Tryz.prog f ((Q6.ctx k).Γ f) := (Q7 (QX.sem_ok k) (Q7 (Q0E.sem_ok k) (Q7 (Qc.sem_ok k) QE)))
theorem Q6.l1.round (k : Nat) : Q0V (Q6.ctx k) (Q0e (Func.code Tryz.f130) [1, 1, 1, 1, 1, 0, 1, 0, 0, 1, 1, 0, 0, 1, 1, 0, 0]) (.nil) Q6.l1.T [.mask [2, 4, 5, 6, 24, 25, 29], .auto 1] Q6.l1.os (Q6.l1.r k) := by
 intro ρ x kn ke; kernel_rfl
theorem Q6.l1.ok (k : Nat) : StOK 1 Tryz.prog (.loop (Q0e (Func.code Tryz.f130) [1, 1, 1, 1, 1, 0, 1, 0, 0, 1, 1, 0, 0, 1, 1, 0, 0])) (Qv Q6.l1.T Q6.l1.os (Q6.l1 k k)) :=
 Q0X (C := Q6.ctx k) (Q6.gok k) Tryz.mix Q3.nil (by kernel_rfl) (by kernel_rfl) (by kernel_rfl) (Q6.l1.round k) k
theorem Q6.l0.round (k : Nat) : Q0V (Q6.ctx k) (Q0e (Func.code Tryz.f130) [1, 1, 1, 1, 1, 0, 1, 0, 0]) (.node [] none (.nil) (.node [] none (.nil) (.node [] none (.node [] none (.node [] none (.nil) (.node [] none (.nil) (.node [] none (.node [.mask [2, 4, 5, 6, 24, 25, 29], .auto 1] (some (Qv Q6.l1.T Q6.l1.os (Q6.l1 k k))) .nil .nil) (.nil)))) (.nil)) (.nil)))) Q6.l0.T [.mask [2, 4, 24, 25], .auto 1] Q6.l0.os (Q6.l0.r k) := by
 intro ρ x kn ke; kernel_rfl
theorem Q6.l0.ok (k : Nat) : StOK 1 Tryz.prog (.loop (Q0e (Func.code Tryz.f130) [1, 1, 1, 1, 1, 0, 1, 0, 0])) (Qv Q6.l0.T Q6.l0.os (Q6.l0 k k)) :=
 Q0X (C := Q6.ctx k) (Q6.gok k) Tryz.mix (Q3.seq Q3.nil (Q3.seq Q3.nil (Q3.seq (Q3.block (Q3.seq Q3.nil (Q3.seq Q3.nil (Q3.block (Q3.loop (by kernel_rfl) (Q6.l1.ok k)))))) Q3.nil))) (by kernel_rfl) (by kernel_rfl) (by kernel_rfl) (Q6.l0.round k) k
def Q6.ann (k : Nat) : Ann := .node [] none (.nil) (.node [] none (.nil) (.node [] none (.nil) (.node [] none (.nil) (.node [] none (.nil) (.node [] none (.node [] none (.nil) (.node [] none (.node [.mask [2, 4, 24, 25], .auto 1] (some (Qv Q6.l0.T Q6.l0.os (Q6.l0 k k))) .nil .nil) (.nil))) (.nil))))))
theorem Q6.body (k : Nat) : Q1l (Q6.ctx k) Tryz.f130 (Func.code Tryz.f130) (Q6.ann k) Q6.T Q6.os (fun x K => Q6.c k x.1 x.2.1 K) := by
 intro ρ x K; kernel_rfl
theorem Q6.sem_ok (k : Nat) : Qb Tryz.prog 130 (Q6.sem k) :=
 Q0P (C := Q6.ctx k) (Q6.gok k) Tryz.mix (c := Func.code Tryz.f130) (ann := Q6.ann k) (T := Q6.T) (os := Q6.os) (fun x K => Q6.c k x.1 x.2.1 K) Tryz.func130 (by kernel_rfl) (by kernel_rfl) (Q3.seq Q3.nil (Q3.seq Q3.nil (Q3.seq Q3.nil (Q3.seq Q3.nil (Q3.seq Q3.nil (Q3.seq (Q3.seq Q3.nil (Q3.block (Q3.loop (by kernel_rfl) (Q6.l0.ok k)))) Q3.nil)))))) (Q6.body k) (by kernel_rfl) (by kernel_rfl) (by kernel_rfl)
def Q18.c (k : Nat) {ρ : Type} (s : ByteArray) (K : (List Int) × Unit → Option ρ) : Option ρ :=
 (Q14 k ).bind fun t0 => (Qf k s (t0.1.1, ((), (t0.1.2.2.1, ())))).bind fun t1 => (Q6 k (t1.1.1, ((), (t1.1.2.2.1, ()))) t1.2.1).bind fun t2 => K (t2.1, ())
def Q18 (k : Nat) (s : ByteArray) : Option Qec := Q18.c k s some
def Q18.tin : List Ty := [.str]
def Q18.tout : List Ty := [Qe9]
def Q18.sem (k : Nat) : Qj := Qn Q18.tin Q18.tout fun x => Q18 k x.1
noncomputable def Q18.ctx (k : Nat) : Ctx := ⟨Tryz.prog, gam [(128, (Q14.sem k)), (129, (Qf.sem k)), (130, (Q6.sem k))]⟩
theorem Q18.gok (k : Nat) : ∀ f, Qb Tryz.prog f ((Q18.ctx k).Γ f) := (Q7 (Q14.sem_ok k) (Q7 (Qf.sem_ok k) (Q7 (Q6.sem_ok k) QE)))
def Q18.ann (k : Nat) : Ann := .nil
theorem Q18.body (k : Nat) : Q0M (Q18.ctx k) Tryz.f94 (Func.code Tryz.f94) (Q18.ann k) Q18.tin Q18.tout (fun x K => Q18.c k x.1 K) := by
 intro ρ x K; kernel_rfl
theorem Q18.sem_ok (k : Nat) : Qb Tryz.prog 94 (Q18.sem k) :=
 Qs (C := Q18.ctx k) (Q18.gok k) Tryz.mix (c := Func.code Tryz.f94) (ann := Q18.ann k) (tin := Q18.tin) (tout := Q18.tout) (fun x K => Q18.c k x.1 K) Tryz.func94 (by kernel_rfl) (by kernel_rfl) Q3.nil (Q18.body k)
def Q0D.c (k : Nat) {ρ : Type} (s : ByteArray) (K : (List Int) × Unit → Option ρ) : Option ρ :=
 (Q18 k s).bind fun t0 => let v1 : ByteArray := (bytesOf (List.take 32 (List.drop 0 t0.1)))
 (Q18 k v1).bind fun t2 => K (t2.1, ())
def Q0D (k : Nat) (s : ByteArray) : Option Qec := Q0D.c k s some
def Q0D.tin : List Ty := [.str]
def Q0D.tout : List Ty := [Qe9]
def Q0D.sem (k : Nat) : Qj := Qn Q0D.tin Q0D.tout fun x => Q0D k x.1
noncomputable def Q0D.ctx (k : Nat) : Ctx := ⟨Tryz.prog, gam [(94, (Q18.sem k))]⟩
theorem Q0D.gok (k : Nat) : ∀ f, Qb Tryz.prog f ((Q0D.ctx k).Γ f) := (Q7 (Q18.sem_ok k) QE)
def Q0D.ann (k : Nat) : Ann := .nil
theorem Q0D.body (k : Nat) : Q0M (Q0D.ctx k) Tryz.f66 (Func.code Tryz.f66) (Q0D.ann k) Q0D.tin Q0D.tout (fun x K => Q0D.c k x.1 K) := by
 intro ρ x K; kernel_rfl
theorem Q0D.sem_ok (k : Nat) : Qb Tryz.prog 66 (Q0D.sem k) :=
 Qs (C := Q0D.ctx k) (Q0D.gok k) Tryz.mix (c := Func.code Tryz.f66) (ann := Q0D.ann k) (tin := Q0D.tin) (tout := Q0D.tout) (fun x K => Q0D.c k x.1 K) Tryz.func66 (by kernel_rfl) (by kernel_rfl) Q3.nil (Q0D.body k)
def QI.c (k : Nat) {ρ : Type} (h : Qe1) (K : (List Int) × Unit → Option ρ) : Option ρ :=
 (Q0K k (h.1, (h.2.1, (h.2.2.1, (h.2.2.2.1, (h.2.2.2.2.1, (h.2.2.2.2.2.1, ()))))))).bind fun t0 => (Q0D k t0.1).bind fun t1 => K (t1.1, ())
def QI (k : Nat) (h : Qe1) : Option Qec := QI.c k h some
def QI.tin : List Ty := [Qe0]
def QI.tout : List Ty := [Qe9]
def QI.sem (k : Nat) : Qj := Qn QI.tin QI.tout fun x => QI k x.1
noncomputable def QI.ctx (k : Nat) : Ctx := ⟨Tryz.prog, gam [(67, (Q0K.sem k)), (66, (Q0D.sem k))]⟩
theorem QI.gok (k : Nat) : ∀ f, Qb Tryz.prog f ((QI.ctx k).Γ f) := (Q7 (Q0K.sem_ok k) (Q7 (Q0D.sem_ok k) QE))
def QI.ann (k : Nat) : Ann := .nil
theorem QI.body (k : Nat) : Q0M (QI.ctx k) Tryz.f31 (Func.code Tryz.f31) (QI.ann k) QI.tin QI.tout (fun x K => QI.c k x.1 K) := by
 intro ρ x K; kernel_rfl
theorem QI.sem_ok (k : Nat) : Qb Tryz.prog 31 (QI.sem k) :=
 Qs (C := QI.ctx k) (QI.gok k) Tryz.mix (c := Func.code Tryz.f31) (ann := QI.ann k) (tin := QI.tin) (tout := QI.tout) (fun x K => QI.c k x.1 K) Tryz.func31 (by kernel_rfl) (by kernel_rfl) Q3.nil (QI.body k)
end Go.Am
