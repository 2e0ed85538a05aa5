/- A part of a proof: a machine of abstract values that tells what functions of the program compute, and the plain facts on them. -/
import Derived.Test.YtefnfbhgjfkijaaGreatAm6
import Derived.Test.YtefnfbhgjfkijaaGreatRows
import Derived.KernelRfl
import Derived.Test.YtefnfbhgjfkijaaGreatProg
import Derived.Test.YtefnfbhgjfkijaaGreatAm8
import Derived.Test.YtefnfbhgjfkijaaGreatAm7
set_option linter.unusedVariables false
set_option linter.unusedSimpArgs false
set_option linter.unnecessarySimpa false
set_option linter.unusedSectionVars false
namespace Go.Am
abbrev Qcx : Type := ((List Int) × Unit)
abbrev Qcw : Ty := (.arr 64 (.int .u8))
abbrev Qcv : Ty := (.arr 8 (.int .u32))
abbrev Qcu : Ty := (.arr 32 (.int .u8))
abbrev Qct : Ty := (.arr 64 (.int .u32))
abbrev Qcs : Ty := (.pair (.int .u64) .unit)
abbrev Qcr : Type := ((Unit × (Unit × Unit)) × Unit)
abbrev Qcq : Type := ((List Int) × (Unit × (Int × Unit)))
abbrev Qcp : Type := ((List Int) × (List Int) × (List Int) × Unit)
abbrev Qco : Type := ( Qcr  × (List Int) × Unit)
abbrev Qcn : Type := ( Qcq  × (List Int) × Unit)
abbrev Qcm : Type := (Int × ((List Int) × ((List Int) × (Int × (Int × (Int × Unit))))))
abbrev Qcl : Ty := (.pair (.int .u32) (.pair  Qcu  (.pair  Qcu  (.pair (.int .u32) (.pair (.int .u32) (.pair (.int .u32) .unit))))))
end Go.Am
namespace Go.Proofs.YtefnfbhgjfkijaaGreat
open Go.RowKit Go.Am
theorem Tryz.own : ownKnob Tryz.prog.godebug = none := by kernel_rfl
theorem Tryz.laidOut : laidOutB Tryz.prog = true := by kernel_rfl
end Go.Proofs.YtefnfbhgjfkijaaGreat
namespace Go.Am
open Go
theorem Qc5 {p : Int → Prop} {l : List Int} (h : ∀ i, i < l.length → p (l.getD i 0)) : ∀ x ∈ l, p x := by
 intro x hx
 obtain ⟨i, hi, rfl⟩ := List.getElem_of_mem hx
 have := h i hi
 rw [List.getD_eq_getElem?_getD] at this
 simpa [hi] using this
theorem Qbr : reachBytes = 140737488351232 := rfl
end Go.Am
namespace Go.Am
open Go Go.Proofs
theorem _root_.Go.Proofs.Tryz.mix : Tryz.prog.follows .mixedOrders = true := by kernel_rfl
end Go.Am
namespace Go.Am
open Go Go.Proofs Go.Shelf
set_option maxRecDepth 100000
def Bld.fs : List (Nat × Nat) := [(240, 110), (276, 131), (169, 65)]
def Bld.ts : List (Nat × Nat) := [(72, 128), (70, 126), (164, 201), (37, 97), (127, 168)]
def Bld.look : List (Nat × Nat) → Nat → Nat
 | [], n => n
 | (a, b) :: l, n => if n = a then b else Bld.look l n
def Bld.ren : Ren := ⟨Bld.look Bld.fs, Bld.look Bld.ts, fun n => n⟩
theorem Bld.lays240 : Lays.n240 Tryz.prog Bld.ren := by
 constructor <;> first | kernel_rfl | (intro w; kernel_rfl)
theorem Bld.lays169 : Lays.n169 Tryz.prog Bld.ren := by
 constructor <;> first | kernel_rfl | (intro w; kernel_rfl)
theorem Bld.x72 : Builder.X72 Tryz.prog Bld.ren where
 sizeBuilder := by kernel_rfl
 liesBuilder := by kernel_rfl
theorem Bld.extra : Builder.Extra Tryz.prog Bld.ren where
 sizeBuilder := by kernel_rfl
 liesBuilder := by kernel_rfl
 t5 := by kernel_rfl
 a5 := fun w => by kernel_rfl
 z5 := fun w => by kernel_rfl
 v5 := fun w => by kernel_rfl
 infoByte := by kernel_rfl
 cellsByte := by kernel_rfl
 sizeByte := by kernel_rfl
 neB5 := by decide
theorem Bld.copyCheck : Qh Tryz.prog 110 (Qb5 130 2) := Q8A Bld.lays240 Bld.x72 (by kernel_rfl) (by constructor <;> kernel_rfl)
theorem Bld.string : Qh Tryz.prog 65 Q9U := Qau Bld.lays169 Bld.extra rfl (by constructor <;> kernel_rfl)
end Go.Am
namespace Go.Am
open Go Go.Proofs
set_option maxRecDepth 100000
abbrev Q07.τ : Type := Qco 
def Q07.c (k : Nat) {ρ : Type}  (K : Q07.τ → Option ρ) : Option ρ :=
 K ((((), ((), ())), ()), ([], ()))
def Q07 (k : Nat)  : Option Q07.τ := Q07.c k  some
def Q07.T : Q1a := ⟨[], [], 0⟩
def Q07.os : List Out := [⟨.ret, [.auto 0], ⟨[.ptr 0 []], [.pair (.pair (.sfp 0 [0] 130) (.pair (.vbs 1) (.dat .unit))) (.dat .unit), .vec (.int .u8)]⟩⟩]
def Q07.sem (k : Nat) : Qp := Q1g Q07.T Q07.os fun x => Q07 k 
noncomputable def Q07.ctx (k : Nat) : Ctx := ⟨Tryz.prog, gam []⟩
theorem Q07.gok (k : Nat) : ∀ f, Qh Tryz.prog f ((Q07.ctx k).Γ f) := QO
def Q07.ann (k : Nat) : Ann := .nil
theorem Q07.body (k : Nat) : Q1m (Q07.ctx k) Tryz.f30 (Func.code Tryz.f30) (Q07.ann k) Q07.T Q07.os (fun x K => Q07.c k  K) := by
 intro ρ x K; kernel_rfl
theorem Q07.sem_ok (k : Nat) : Qh Tryz.prog 30 (Q07.sem k) :=
 Q0S (C := Q07.ctx k) (Q07.gok k) Tryz.mix (c := Func.code Tryz.f30) (ann := Q07.ann k) (T := Q07.T) (os := Q07.os) (fun x K => Q07.c k  K) Tryz.func30 (by kernel_rfl) (by kernel_rfl) Q0.nil (Q07.body k) (by kernel_rfl) (by kernel_rfl) (by kernel_rfl)
abbrev Q0s.l0.σ : Type := Int × Int × Int × (List Int) × Unit
abbrev Q0s.l0.τ : Type := Qcx 
def Q0s.l0.r (k : Nat) {ρ : Type} (x : Q0s.l0.σ) (kn : Q0s.l0.σ → Option ρ) (ke : Q0s.l0.τ → Option ρ) : Option ρ :=
 bif (decide (x.2.2.1 < x.2.1)) then (let v1 : Int := (IntKind.wrap IntKind.i64 ((8 : Int) * x.2.2.1))
 bif (decide ((0 : Int) ≤ v1)) then (let v2 : Int := (Q1P IntKind.u64 x.1 v1)
 bif (decide (((0 : Int) ≤ x.2.2.1) ∧ (x.2.2.1 < (((List.length x.2.2.2.1) : Nat) : Int)))) then (let v3 : Int := (IntKind.wrap IntKind.i64 (x.2.2.1 + (1 : Int)))
 kn (x.1, (x.2.1, (v3, ((List.set x.2.2.2.1 (Int.toNat x.2.2.1) (IntKind.wrap IntKind.u8 v2)), ()))))) else (none)) else (none)) else (ke (x.2.2.2.1, ()))
def Q0s.l0 (k : Nat) : Nat → Q0s.l0.σ → Option Q0s.l0.τ := Q12 (Q0s.l0.r k)
def Q0s.l0.T : StT := ⟨.dat (.int .u64) :: us 4 ++ .vsl 0 :: us 4 ++ .dat (.int .i64) :: .dat (.int .i64) :: us 13, [.vec (.int .u8)]⟩
def Q0s.l0.os : List Out := [⟨(.exit 0), [.mask [5], .auto 0], ⟨us 5 ++ .vsl 0 :: us 19, [.vec (.int .u8)]⟩⟩]
def Q0s.c (k : Nat) {ρ : Type} (n : Int) (bytes : Int) (K : ByteArray × Unit → Option ρ) : Option ρ :=
 bif ((decide (((0 : Int) ≤ bytes) ∧ (bytes ≤ bytes))) && (Nat.ble ((Int.toNat bytes) * 1) 140737488355328)) then (let v0 : Int := (((List.length (List.replicate (Int.toNat bytes) (0 : Int))) : Nat) : Int)
 (Q0s.l0 k k (n, (v0, ((0 : Int), ((List.replicate (Int.toNat bytes) (0 : Int)), ()))))).bind fun t4 => K ((bytesOf t4.1), ())) else (none)
def Q0s (k : Nat) (n : Int) (bytes : Int) : Option (ByteArray × Unit) := Q0s.c k n bytes some
def Q0s.tin : List Ty := [(.int .u64), (.int .i64)]
def Q0s.tout : List Ty := [.str]
def Q0s.sem (k : Nat) : Qp := Qt Q0s.tin Q0s.tout fun x => Q0s k x.1 x.2.1
noncomputable def Q0s.ctx (k : Nat) : Ctx := ⟨Tryz.prog, gam []⟩
theorem Q0s.gok (k : Nat) : ∀ f, Qh Tryz.prog f ((Q0s.ctx k).Γ f) := QO
theorem Q0s.l0.round (k : Nat) : Q0Q (Q0s.ctx k) (Q08 (Func.code Tryz.f60) [1, 1, 0, 1, 0, 0]) (.nil) Q0s.l0.T [.mask [0, 5, 10, 11], .auto 0] Q0s.l0.os (Q0s.l0.r k) := by
 intro ρ x kn ke; kernel_rfl
theorem Q0s.l0.ok (k : Nat) : StOK 0 Tryz.prog (.loop (Q08 (Func.code Tryz.f60) [1, 1, 0, 1, 0, 0])) (Qr Q0s.l0.T Q0s.l0.os (Q0s.l0 k k)) :=
 Q0R (C := Q0s.ctx k) (Q0s.gok k) Tryz.mix Q0.nil (by kernel_rfl) (by kernel_rfl) (by kernel_rfl) (Q0s.l0.round k) k
def Q0s.ann (k : Nat) : Ann := .node [] none (.nil) (.node [] none (.nil) (.node [] none (.node [] none (.nil) (.node [] none (.node [.mask [0, 5, 10, 11], .auto 0] (some (Qr Q0s.l0.T Q0s.l0.os (Q0s.l0 k k))) .nil .nil) (.nil))) (.nil)))
theorem Q0s.body (k : Nat) : Q0I (Q0s.ctx k) Tryz.f60 (Func.code Tryz.f60) (Q0s.ann k) Q0s.tin Q0s.tout (fun x K => Q0s.c k x.1 x.2.1 K) := by
 intro ρ x K; kernel_rfl
theorem Q0s.sem_ok (k : Nat) : Qh Tryz.prog 60 (Q0s.sem k) :=
 Qv (C := Q0s.ctx k) (Q0s.gok k) Tryz.mix (c := Func.code Tryz.f60) (ann := Q0s.ann k) (tin := Q0s.tin) (tout := Q0s.tout) (fun x K => Q0s.c k x.1 x.2.1 K) Tryz.func60 (by kernel_rfl) (by kernel_rfl) (Q0.seq Q0.nil (Q0.seq Q0.nil (Q0.seq (Q0.seq Q0.nil (Q0.block (Q0.loop (by kernel_rfl) (Q0s.l0.ok k)))) Q0.nil))) (Q0s.body k)
abbrev Ql.τ : Type := (Int × Qcr × (List Int) × Unit)
def Ql.c (k : Nat) {ρ : Type} (s : ByteArray) (b0 : Qcr) (b1 : (List Int)) (K : Ql.τ → Option ρ) : Option ρ :=
 bif (Nat.ble (((List.length b1) + (List.length (Q1q s))) * 1) 140737488355328) then (K ((((ByteArray.size s) : Nat) : Int), ((((), ((), ())), ()), ((b1 ++ (Q1q s)), ())))) else (none)
def Ql (k : Nat) (s : ByteArray) (b0 : Qcr) (b1 : (List Int)) : Option Ql.τ := Ql.c k s b0 b1 some
def Ql.T : Q1a := ⟨[.ptr 0 [0], .dat .str], [.pair (.pair (.sfp 0 [0] 130) (.pair (.vbs 1) (.dat .unit))) (.dat .unit), .vec (.int .u8)], 1⟩
def Ql.os : List Out := [⟨.ret, [.freeze (.slot 0), .auto 1], ⟨[.dat (.int .i64), .undef], [.pair (.pair (.sfp 0 [0] 130) (.pair (.vbs 1) (.dat .unit))) (.dat .unit), .vec (.int .u8)]⟩⟩]
def Ql.sem (k : Nat) : Qp := Q1g Ql.T Ql.os fun x => Ql k x.1 x.2.1 x.2.2.1
noncomputable def Ql.ctx (k : Nat) : Ctx := ⟨Tryz.prog, gam [(110, (Qb5 130 2))]⟩
theorem Ql.gok (k : Nat) : ∀ f, Qh Tryz.prog f ((Ql.ctx k).Γ f) := (Qf Bld.copyCheck QO)
def Ql.ann (k : Nat) : Ann := .nil
theorem Ql.body (k : Nat) : Q1m (Ql.ctx k) Tryz.f84 (Func.code Tryz.f84) (Ql.ann k) Ql.T Ql.os (fun x K => Ql.c k x.1 x.2.1 x.2.2.1 K) := by
 intro ρ x K; kernel_rfl
theorem Ql.sem_ok (k : Nat) : Qh Tryz.prog 84 (Ql.sem k) :=
 Q0S (C := Ql.ctx k) (Ql.gok k) Tryz.mix (c := Func.code Tryz.f84) (ann := Ql.ann k) (T := Ql.T) (os := Ql.os) (fun x K => Ql.c k x.1 x.2.1 x.2.2.1 K) Tryz.func84 (by kernel_rfl) (by kernel_rfl) Q0.nil (Ql.body k) (by kernel_rfl) (by kernel_rfl) (by kernel_rfl)
abbrev Qq.τ : Type := Qco 
def Qq.c (k : Nat) {ρ : Type} (s : ByteArray) (b0 : Qcr) (b1 : (List Int)) (K : Qq.τ → Option ρ) : Option ρ :=
 (Ql k s (((), ((), ())), ()) b1).bind fun t0 => K ((((), ((), ())), ()), (t0.2.2.1, ()))
def Qq (k : Nat) (s : ByteArray) (b0 : Qcr) (b1 : (List Int)) : Option Qq.τ := Qq.c k s b0 b1 some
def Qq.T : Q1a := ⟨[.ptr 0 [], .dat .str], [.pair (.pair (.sfp 0 [0] 130) (.pair (.vbs 1) (.dat .unit))) (.dat .unit), .vec (.int .u8)], 1⟩
def Qq.os : List Out := [⟨.ret, [.auto 1], ⟨[], [.pair (.pair (.sfp 0 [0] 130) (.pair (.vbs 1) (.dat .unit))) (.dat .unit), .vec (.int .u8)]⟩⟩]
def Qq.sem (k : Nat) : Qp := Q1g Qq.T Qq.os fun x => Qq k x.1 x.2.1 x.2.2.1
noncomputable def Qq.ctx (k : Nat) : Ctx := ⟨Tryz.prog, gam [(84, (Ql.sem k))]⟩
theorem Qq.gok (k : Nat) : ∀ f, Qh Tryz.prog f ((Qq.ctx k).Γ f) := (Qf (Ql.sem_ok k) QO)
def Qq.ann (k : Nat) : Ann := .nil
theorem Qq.body (k : Nat) : Q1m (Qq.ctx k) Tryz.f46 (Func.code Tryz.f46) (Qq.ann k) Qq.T Qq.os (fun x K => Qq.c k x.1 x.2.1 x.2.2.1 K) := by
 intro ρ x K; kernel_rfl
theorem Qq.sem_ok (k : Nat) : Qh Tryz.prog 46 (Qq.sem k) :=
 Q0S (C := Qq.ctx k) (Qq.gok k) Tryz.mix (c := Func.code Tryz.f46) (ann := Qq.ann k) (T := Qq.T) (os := Qq.os) (fun x K => Qq.c k x.1 x.2.1 x.2.2.1 K) Tryz.func46 (by kernel_rfl) (by kernel_rfl) Q0.nil (Qq.body k) (by kernel_rfl) (by kernel_rfl) (by kernel_rfl)
abbrev QN.τ : Type := Qco 
def QN.c (k : Nat) {ρ : Type} (n : Int) (b0 : Qcr) (b1 : (List Int)) (K : QN.τ → Option ρ) : Option ρ :=
 (Q0s k (IntKind.wrap IntKind.u64 n) (4 : Int)).bind fun t0 => (Qq k t0.1 (((), ((), ())), ()) b1).bind fun t1 => K ((((), ((), ())), ()), (t1.2.1, ()))
def QN (k : Nat) (n : Int) (b0 : Qcr) (b1 : (List Int)) : Option QN.τ := QN.c k n b0 b1 some
def QN.T : Q1a := ⟨[.ptr 0 [], .dat (.int .u32)], [.pair (.pair (.sfp 0 [0] 130) (.pair (.vbs 1) (.dat .unit))) (.dat .unit), .vec (.int .u8)], 1⟩
def QN.os : List Out := [⟨.ret, [.auto 1], ⟨[], [.pair (.pair (.sfp 0 [0] 130) (.pair (.vbs 1) (.dat .unit))) (.dat .unit), .vec (.int .u8)]⟩⟩]
def QN.sem (k : Nat) : Qp := Q1g QN.T QN.os fun x => QN k x.1 x.2.1 x.2.2.1
noncomputable def QN.ctx (k : Nat) : Ctx := ⟨Tryz.prog, gam [(60, (Q0s.sem k)), (46, (Qq.sem k))]⟩
theorem QN.gok (k : Nat) : ∀ f, Qh Tryz.prog f ((QN.ctx k).Γ f) := (Qf (Q0s.sem_ok k) (Qf (Qq.sem_ok k) QO))
def QN.ann (k : Nat) : Ann := .nil
theorem QN.body (k : Nat) : Q1m (QN.ctx k) Tryz.f32 (Func.code Tryz.f32) (QN.ann k) QN.T QN.os (fun x K => QN.c k x.1 x.2.1 x.2.2.1 K) := by
 intro ρ x K; kernel_rfl
theorem QN.sem_ok (k : Nat) : Qh Tryz.prog 32 (QN.sem k) :=
 Q0S (C := QN.ctx k) (QN.gok k) Tryz.mix (c := Func.code Tryz.f32) (ann := QN.ann k) (T := QN.T) (os := QN.os) (fun x K => QN.c k x.1 x.2.1 x.2.2.1 K) Tryz.func32 (by kernel_rfl) (by kernel_rfl) Q0.nil (QN.body k) (by kernel_rfl) (by kernel_rfl) (by kernel_rfl)
abbrev QY.τ : Type := Qco 
def QY.c (k : Nat) {ρ : Type} (h : (List Int)) (b0 : Qcr) (b1 : (List Int)) (K : QY.τ → Option ρ) : Option ρ :=
 let v0 : ByteArray := (bytesOf (List.take 32 (List.drop 0 h)))
 (Qq k v0 (((), ((), ())), ()) b1).bind fun t1 => K ((((), ((), ())), ()), (t1.2.1, ()))
def QY (k : Nat) (h : (List Int)) (b0 : Qcr) (b1 : (List Int)) : Option QY.τ := QY.c k h b0 b1 some
def QY.T : Q1a := ⟨[.ptr 0 [], .dat Qcu], [.pair (.pair (.sfp 0 [0] 130) (.pair (.vbs 1) (.dat .unit))) (.dat .unit), .vec (.int .u8)], 1⟩
def QY.os : List Out := [⟨.ret, [.auto 1], ⟨[], [.pair (.pair (.sfp 0 [0] 130) (.pair (.vbs 1) (.dat .unit))) (.dat .unit), .vec (.int .u8)]⟩⟩]
def QY.sem (k : Nat) : Qp := Q1g QY.T QY.os fun x => QY k x.1 x.2.1 x.2.2.1
noncomputable def QY.ctx (k : Nat) : Ctx := ⟨Tryz.prog, gam [(46, (Qq.sem k))]⟩
theorem QY.gok (k : Nat) : ∀ f, Qh Tryz.prog f ((QY.ctx k).Γ f) := (Qf (Qq.sem_ok k) QO)
def QY.ann (k : Nat) : Ann := .nil
theorem QY.body (k : Nat) : Q1m (QY.ctx k) Tryz.f31 (Func.code Tryz.f31) (QY.ann k) QY.T QY.os (fun x K => QY.c k x.1 x.2.1 x.2.2.1 K) := by
 intro ρ x K; kernel_rfl
theorem QY.sem_ok (k : Nat) : Qh Tryz.prog 31 (QY.sem k) :=
 Q0S (C := QY.ctx k) (QY.gok k) Tryz.mix (c := Func.code Tryz.f31) (ann := QY.ann k) (T := QY.T) (os := QY.os) (fun x K => QY.c k x.1 x.2.1 x.2.2.1 K) Tryz.func31 (by kernel_rfl) (by kernel_rfl) Q0.nil (QY.body k) (by kernel_rfl) (by kernel_rfl) (by kernel_rfl)
abbrev QK.τ : Type := (ByteArray × Unit)
def QK.c (k : Nat) {ρ : Type} (b0 : Qcr) (b1 : (List Int)) (K : QK.τ → Option ρ) : Option ρ :=
 bif (Nat.ble (List.length b1) 9223372036854775807) then (K ((bytesOf b1), ())) else (none)
def QK (k : Nat) (b0 : Qcr) (b1 : (List Int)) : Option QK.τ := QK.c k b0 b1 some
def QK.T : Q1a := ⟨[.ptr 0 []], [.pair (.pair (.sfp 0 [0] 130) (.pair (.vbs 1) (.dat .unit))) (.dat .unit), .vec (.int .u8)], 1⟩
def QK.os : List Out := [⟨.ret, [.freeze (.slot 0), .auto 1], ⟨[.dat .str], [.undef]⟩⟩]
def QK.sem (k : Nat) : Qp := Q1g QK.T QK.os fun x => QK k x.1 x.2.1
noncomputable def QK.ctx (k : Nat) : Ctx := ⟨Tryz.prog, gam [(65, Q9U)]⟩
theorem QK.gok (k : Nat) : ∀ f, Qh Tryz.prog f ((QK.ctx k).Γ f) := (Qf Bld.string QO)
def QK.ann (k : Nat) : Ann := .nil
theorem QK.body (k : Nat) : Q1m (QK.ctx k) Tryz.f35 (Func.code Tryz.f35) (QK.ann k) QK.T QK.os (fun x K => QK.c k x.1 x.2.1 K) := by
 intro ρ x K; kernel_rfl
theorem QK.sem_ok (k : Nat) : Qh Tryz.prog 35 (QK.sem k) :=
 Q0S (C := QK.ctx k) (QK.gok k) Tryz.mix (c := Func.code Tryz.f35) (ann := QK.ann k) (T := QK.T) (os := QK.os) (fun x K => QK.c k x.1 x.2.1 K) Tryz.func35 (by kernel_rfl) (by kernel_rfl) Q0.nil (QK.body k) (by kernel_rfl) (by kernel_rfl) (by kernel_rfl)
def Q0N.c (k : Nat) {ρ : Type} (h : Qcm) (K : ByteArray × Unit → Option ρ) : Option ρ :=
 (Q07 k ).bind fun t0 => let v1 : Int := h.1
 (QN k v1 (((), ((), ())), ()) t0.2.1).bind fun t2 => let v3 : (List Int) := h.2.1
 (QY k v3 (((), ((), ())), ()) t2.2.1).bind fun t4 => let v5 : (List Int) := h.2.2.1
 (QY k v5 (((), ((), ())), ()) t4.2.1).bind fun t6 => let v7 : Int := h.2.2.2.1
 (QN k v7 (((), ((), ())), ()) t6.2.1).bind fun t8 => let v9 : Int := h.2.2.2.2.1
 (QN k v9 (((), ((), ())), ()) t8.2.1).bind fun t10 => let v11 : Int := h.2.2.2.2.2.1
 (QN k v11 (((), ((), ())), ()) t10.2.1).bind fun t12 => (QK k (((), ((), ())), ()) t12.2.1).bind fun t13 => K (t13.1, ())
def Q0N (k : Nat) (h : Qcm) : Option (ByteArray × Unit) := Q0N.c k h some
def Q0N.tin : List Ty := [Qcl]
def Q0N.tout : List Ty := [.str]
def Q0N.sem (k : Nat) : Qp := Qt Q0N.tin Q0N.tout fun x => Q0N k x.1
noncomputable def Q0N.ctx (k : Nat) : Ctx := ⟨Tryz.prog, gam [(30, (Q07.sem k)), (32, (QN.sem k)), (31, (QY.sem k)), (35, (QK.sem k))]⟩
theorem Q0N.gok (k : Nat) : ∀ f, Qh Tryz.prog f ((Q0N.ctx k).Γ f) := (Qf (Q07.sem_ok k) (Qf (QN.sem_ok k) (Qf (QY.sem_ok k) (Qf (QK.sem_ok k) QO))))
def Q0N.ann (k : Nat) : Ann := .nil
theorem Q0N.body (k : Nat) : Q0I (Q0N.ctx k) Tryz.f44 (Func.code Tryz.f44) (Q0N.ann k) Q0N.tin Q0N.tout (fun x K => Q0N.c k x.1 K) := by
 intro ρ x K; kernel_rfl
theorem Q0N.sem_ok (k : Nat) : Qh Tryz.prog 44 (Q0N.sem k) :=
 Qv (C := Q0N.ctx k) (Q0N.gok k) Tryz.mix (c := Func.code Tryz.f44) (ann := Q0N.ann k) (tin := Q0N.tin) (tout := Q0N.tout) (fun x K => Q0N.c k x.1 K) Tryz.func44 (by kernel_rfl) (by kernel_rfl) Q0.nil (Q0N.body k)
def Q0X.c (k : Nat) {ρ : Type}  (K : (List Int) × Unit → Option ρ) : Option ρ :=
 let v0 : (List Int) := (List.set (List.set (List.set (List.set (List.set (List.set (List.set (List.set (List.replicate 8 (0 : Int)) 0 (1779033703 : Int)) 1 (3144134277 : Int)) 2 (1013904242 : Int)) 3 (2773480762 : Int)) 4 (1359893119 : Int)) 5 (2600822924 : Int)) 6 (528734635 : Int)) 7 (1541459225 : Int))
 K (v0, ())
def Q0X (k : Nat)  : Option Qcx := Q0X.c k  some
def Q0X.tin : List Ty := []
def Q0X.tout : List Ty := [Qcv]
def Q0X.sem (k : Nat) : Qp := Qt Q0X.tin Q0X.tout fun x => Q0X k 
noncomputable def Q0X.ctx (k : Nat) : Ctx := ⟨Tryz.prog, gam []⟩
theorem Q0X.gok (k : Nat) : ∀ f, Qh Tryz.prog f ((Q0X.ctx k).Γ f) := QO
def Q0X.ann (k : Nat) : Ann := .nil
theorem Q0X.body (k : Nat) : Q0I (Q0X.ctx k) Tryz.f123 (Func.code Tryz.f123) (Q0X.ann k) Q0X.tin Q0X.tout (fun x K => Q0X.c k  K) := by
 intro ρ x K; kernel_rfl
theorem Q0X.sem_ok (k : Nat) : Qh Tryz.prog 123 (Q0X.sem k) :=
 Qv (C := Q0X.ctx k) (Q0X.gok k) Tryz.mix (c := Func.code Tryz.f123) (ann := Q0X.ann k) (tin := Q0X.tin) (tout := Q0X.tout) (fun x K => Q0X.c k  K) Tryz.func123 (by kernel_rfl) (by kernel_rfl) Q0.nil (Q0X.body k)
abbrev Q14.τ : Type := (Qcq × Unit)
def Q14.c (k : Nat) {ρ : Type}  (K : Q14.τ → Option ρ) : Option ρ :=
 (Q0X k ).bind fun t0 => K ((t0.1, ((), ((0 : Int), ()))), ())
def Q14 (k : Nat)  : Option Q14.τ := Q14.c k  some
def Q14.T : Q1a := ⟨[], [], 0⟩
def Q14.os : List Out := [⟨.ret, [.auto 0], ⟨[.ptr 0 []], [.pair (.dat Qcv) (.pair (.nils) (.dat Qcs))]⟩⟩]
def Q14.sem (k : Nat) : Qp := Q1g Q14.T Q14.os fun x => Q14 k 
noncomputable def Q14.ctx (k : Nat) : Ctx := ⟨Tryz.prog, gam [(123, (Q0X.sem k))]⟩
theorem Q14.gok (k : Nat) : ∀ f, Qh Tryz.prog f ((Q14.ctx k).Γ f) := (Qf (Q0X.sem_ok k) QO)
def Q14.ann (k : Nat) : Ann := .nil
theorem Q14.body (k : Nat) : Q1m (Q14.ctx k) Tryz.f96 (Func.code Tryz.f96) (Q14.ann k) Q14.T Q14.os (fun x K => Q14.c k  K) := by
 intro ρ x K; kernel_rfl
theorem Q14.sem_ok (k : Nat) : Qh Tryz.prog 96 (Q14.sem k) :=
 Q0S (C := Q14.ctx k) (Q14.gok k) Tryz.mix (c := Func.code Tryz.f96) (ann := Q14.ann k) (T := Q14.T) (os := Q14.os) (fun x K => Q14.c k  K) Tryz.func96 (by kernel_rfl) (by kernel_rfl) Q0.nil (Q14.body k) (by kernel_rfl) (by kernel_rfl) (by kernel_rfl)
def Qy.c (k : Nat) {ρ : Type} (x_0 : Int) (k_1 : Int) (K : Int × Unit → Option ρ) : Option ρ :=
 let v0 : Int := (Q0Z BinOp.and IntKind.u64 (IntKind.wrap IntKind.u64 k_1) (31 : Int))
 bif (decide ((0 : Int) ≤ v0)) then (let v1 : Int := (IntKind.wrap IntKind.u64 ((32 : Int) - v0))
 bif (decide ((0 : Int) ≤ v1)) then (let v2 : Int := (Q0Z BinOp.or IntKind.u32 (Q31 IntKind.u32 x_0 v0) (Q1P IntKind.u32 x_0 v1))
 K (v2, ())) else (none)) else (none)
def Qy (k : Nat) (x_0 : Int) (k_1 : Int) : Option (Int × Unit) := Qy.c k x_0 k_1 some
def Qy.tin : List Ty := [(.int .u32), (.int .i64)]
def Qy.tout : List Ty := [(.int .u32)]
def Qy.sem (k : Nat) : Qp := Qt Qy.tin Qy.tout fun x => Qy k x.1 x.2.1
noncomputable def Qy.ctx (k : Nat) : Ctx := ⟨Tryz.prog, gam []⟩
theorem Qy.gok (k : Nat) : ∀ f, Qh Tryz.prog f ((Qy.ctx k).Γ f) := QO
def Qy.ann (k : Nat) : Ann := .nil
theorem Qy.body (k : Nat) : Q0I (Qy.ctx k) Tryz.f144 (Func.code Tryz.f144) (Qy.ann k) Qy.tin Qy.tout (fun x K => Qy.c k x.1 x.2.1 K) := by
 intro ρ x K; kernel_rfl
theorem Qy.sem_ok (k : Nat) : Qh Tryz.prog 144 (Qy.sem k) :=
 Qv (C := Qy.ctx k) (Qy.gok k) Tryz.mix (c := Func.code Tryz.f144) (ann := Qy.ann k) (tin := Qy.tin) (tout := Qy.tout) (fun x K => Qy.c k x.1 x.2.1 K) Tryz.func144 (by kernel_rfl) (by kernel_rfl) Q0.nil (Qy.body k)
def Q0A.c (k : Nat) {ρ : Type} (x_0 : Int) (n : Int) (K : Int × Unit → Option ρ) : Option ρ :=
 let v0 : Int := (IntKind.wrap IntKind.i64 ((0 : Int) - n))
 (Qy k x_0 v0).bind fun t1 => K (t1.1, ())
def Q0A (k : Nat) (x_0 : Int) (n : Int) : Option (Int × Unit) := Q0A.c k x_0 n some
def Q0A.tin : List Ty := [(.int .u32), (.int .i64)]
def Q0A.tout : List Ty := [(.int .u32)]
def Q0A.sem (k : Nat) : Qp := Qt Q0A.tin Q0A.tout fun x => Q0A k x.1 x.2.1
noncomputable def Q0A.ctx (k : Nat) : Ctx := ⟨Tryz.prog, gam [(144, (Qy.sem k))]⟩
theorem Q0A.gok (k : Nat) : ∀ f, Qh Tryz.prog f ((Q0A.ctx k).Γ f) := (Qf (Qy.sem_ok k) QO)
def Q0A.ann (k : Nat) : Ann := .nil
theorem Q0A.body (k : Nat) : Q0I (Q0A.ctx k) Tryz.f140 (Func.code Tryz.f140) (Q0A.ann k) Q0A.tin Q0A.tout (fun x K => Q0A.c k x.1 x.2.1 K) := by
 intro ρ x K; kernel_rfl
theorem Q0A.sem_ok (k : Nat) : Qh Tryz.prog 140 (Q0A.sem k) :=
 Qv (C := Q0A.ctx k) (Q0A.gok k) Tryz.mix (c := Func.code Tryz.f140) (ann := Q0A.ann k) (tin := Q0A.tin) (tout := Q0A.tout) (fun x K => Q0A.c k x.1 x.2.1 K) Tryz.func140 (by kernel_rfl) (by kernel_rfl) Q0.nil (Q0A.body k)
abbrev Qm.l1.σ : Type := Int × Int × (Nat × Nat) × Int × Int × (List Int) × (List Int) × (List Int) × Unit
abbrev Qm.l1.τ : Type := (Int × (List Int) × (List Int) × (List Int) × Unit)
def Qm.l1.r (k : Nat) {ρ : Type} (x : Qm.l1.σ) (kn : Qm.l1.σ → Option ρ) (ke : Qm.l1.τ → Option ρ) : Option ρ :=
 bif (decide (x.2.2.2.2.1 < x.2.2.2.1)) then (bif (decide (((0 : Int) ≤ x.2.2.2.2.1) ∧ (x.2.2.2.2.1 < ((x.2.2.1.2 : Nat) : Int)))) then (let v4 : Int := (List.getD x.2.2.2.2.2.1 (x.2.2.1.1 + (Int.toNat x.2.2.2.2.1)) (0 : Int))
 bif (decide (((0 : Int) ≤ x.1) ∧ (x.1 < ((64 : Nat) : Int)))) then (let v5 : Int := (List.getD x.2.2.2.2.2.2.2.1 (Int.toNat x.1) (0 : Int))
 let v6 : Int := (Q31 IntKind.u32 v5 (8 : Int))
 bif (decide (((0 : Int) ≤ x.1) ∧ (x.1 < ((64 : Nat) : Int)))) then (let v7 : Int := (IntKind.wrap IntKind.i64 (x.2.2.2.2.1 + (1 : Int)))
 kn (x.1, (x.2.1, ((x.2.2.1.1, x.2.2.1.2), (x.2.2.2.1, (v7, (x.2.2.2.2.2.1, (x.2.2.2.2.2.2.1, ((List.set x.2.2.2.2.2.2.2.1 (Int.toNat x.1) (Q0Z BinOp.or IntKind.u32 v6 (IntKind.wrap IntKind.u32 v4))), ()))))))))) else (none)) else (none)) else (none)) else (ke (x.2.1, (x.2.2.2.2.2.1, (x.2.2.2.2.2.2.1, (x.2.2.2.2.2.2.2.1, ())))))
def Qm.l1 (k : Nat) : Nat → Qm.l1.σ → Option Qm.l1.τ := Q12 (Qm.l1.r k)
def Qm.l1.T : StT := ⟨.ptr 0 [] :: us 1 ++ .ptr 1 [] :: .ptr 2 [] :: .dat (.int .i64) :: us 7 ++ .dat (.int .i64) :: us 9 ++ .slr 0 [] :: .dat (.int .i64) :: .dat (.int .i64) :: us 58, [.dat Qcw, .dat Qct, .dat Qct]⟩
def Qm.l1.os : List Out := [⟨(.exit 2), [.mask [0, 2, 3, 12], .auto 1], ⟨.ptr 0 [] :: us 1 ++ .ptr 1 [] :: .ptr 2 [] :: us 8 ++ .dat (.int .i64) :: us 70, [.dat Qcw, .dat Qct, .dat Qct]⟩⟩]
abbrev Qm.l0.σ : Type := Int × (List Int) × (List Int) × (List Int) × Unit
abbrev Qm.l0.τ : Type := Qcp 
def Qm.l0.r (k : Nat) {ρ : Type} (x : Qm.l0.σ) (kn : Qm.l0.σ → Option ρ) (ke : Qm.l0.τ → Option ρ) : Option ρ :=
 bif (decide (x.1 < (16 : Int))) then (let v0 : Int := (IntKind.wrap IntKind.i64 ((4 : Int) * x.1))
 let v1 : Int := (IntKind.wrap IntKind.i64 (x.1 + (1 : Int)))
 let v2 : Int := (IntKind.wrap IntKind.i64 ((4 : Int) * v1))
 bif (decide (((0 : Int) ≤ v0) ∧ ((v0 ≤ v2) ∧ (v2 ≤ ((64 : Nat) : Int))))) then (let v3 : Int := (((Int.toNat (v2 - v0)) : Nat) : Int)
 (Qm.l1 k k (x.1, (x.1, (((Int.toNat v0), (Int.toNat (v2 - v0))), (v3, ((0 : Int), (x.2.1, (x.2.2.1, (x.2.2.2.1, ()))))))))).bind fun t8 => let v9 : Int := (IntKind.wrap IntKind.i64 (t8.1 + (1 : Int)))
 kn (v9, (t8.2.1, (t8.2.2.1, (t8.2.2.2.1, ()))))) else (none)) else (ke (x.2.1, (x.2.2.1, (x.2.2.2.1, ()))))
def Qm.l0 (k : Nat) : Nat → Qm.l0.σ → Option Qm.l0.τ := Q12 (Qm.l0.r k)
def Qm.l0.T : StT := ⟨.ptr 0 [] :: us 1 ++ .ptr 1 [] :: .ptr 2 [] :: us 8 ++ .dat (.int .i64) :: us 70, [.dat Qcw, .dat Qct, .dat Qct]⟩
def Qm.l0.os : List Out := [⟨(.exit 0), [.mask [2, 3], .auto 1], ⟨us 2 ++ .ptr 1 [] :: .ptr 2 [] :: us 79, [.dat Qcw, .dat Qct, .dat Qct]⟩⟩]
abbrev Qm.l2.σ : Type := Int × (List Int) × (List Int) × (List Int) × Unit
abbrev Qm.l2.τ : Type := Qcp 
def Qm.l2.r (k : Nat) {ρ : Type} (x : Qm.l2.σ) (kn : Qm.l2.σ → Option ρ) (ke : Qm.l2.τ → Option ρ) : Option ρ :=
 bif (decide (x.1 < (64 : Int))) then (let v11 : Int := (IntKind.wrap IntKind.i64 (x.1 - (2 : Int)))
 bif (decide (((0 : Int) ≤ v11) ∧ (v11 < ((64 : Nat) : Int)))) then (let v12 : Int := (List.getD x.2.2.2.1 (Int.toNat v11) (0 : Int))
 let v13 : Int := (IntKind.wrap IntKind.i64 (x.1 - (15 : Int)))
 bif (decide (((0 : Int) ≤ v13) ∧ (v13 < ((64 : Nat) : Int)))) then (let v14 : Int := (List.getD x.2.2.2.1 (Int.toNat v13) (0 : Int))
 (Q0A k v12 (17 : Int)).bind fun t15 => (Q0A k v12 (19 : Int)).bind fun t16 => let v17 : Int := (Q0Z BinOp.xor IntKind.u32 t15.1 t16.1)
 let v18 : Int := (Q1P IntKind.u32 v12 (10 : Int))
 (Q0A k v14 (7 : Int)).bind fun t19 => (Q0A k v14 (18 : Int)).bind fun t20 => let v21 : Int := (Q0Z BinOp.xor IntKind.u32 t19.1 t20.1)
 let v22 : Int := (Q1P IntKind.u32 v14 (3 : Int))
 let v23 : Int := (IntKind.wrap IntKind.i64 (x.1 - (7 : Int)))
 bif (decide (((0 : Int) ≤ v23) ∧ (v23 < ((64 : Nat) : Int)))) then (let v24 : Int := (List.getD x.2.2.2.1 (Int.toNat v23) (0 : Int))
 let v25 : Int := (IntKind.wrap IntKind.u32 ((Q0Z BinOp.xor IntKind.u32 v17 v18) + v24))
 let v26 : Int := (IntKind.wrap IntKind.u32 (v25 + (Q0Z BinOp.xor IntKind.u32 v21 v22)))
 let v27 : Int := (IntKind.wrap IntKind.i64 (x.1 - (16 : Int)))
 bif (decide (((0 : Int) ≤ v27) ∧ (v27 < ((64 : Nat) : Int)))) then (let v28 : Int := (List.getD x.2.2.2.1 (Int.toNat v27) (0 : Int))
 let v29 : Int := (IntKind.wrap IntKind.u32 (v26 + v28))
 bif (decide (((0 : Int) ≤ x.1) ∧ (x.1 < ((64 : Nat) : Int)))) then (let v30 : Int := (IntKind.wrap IntKind.i64 (x.1 + (1 : Int)))
 kn (v30, (x.2.1, (x.2.2.1, ((List.set x.2.2.2.1 (Int.toNat x.1) v29), ()))))) else (none)) else (none)) else (none)) else (none)) else (none)) else (ke (x.2.1, (x.2.2.1, (x.2.2.2.1, ()))))
def Qm.l2 (k : Nat) : Nat → Qm.l2.σ → Option Qm.l2.τ := Q12 (Qm.l2.r k)
def Qm.l2.T : StT := ⟨us 2 ++ .ptr 1 [] :: .ptr 2 [] :: us 3 ++ .dat (.int .i64) :: us 75, [.dat Qcw, .dat Qct, .dat Qct]⟩
def Qm.l2.os : List Out := [⟨(.exit 4), [.mask [2, 3], .auto 1], ⟨us 2 ++ .ptr 1 [] :: .ptr 2 [] :: us 79, [.dat Qcw, .dat Qct, .dat Qct]⟩⟩]
abbrev Qm.τ : Type := ((List Int) × (List Int) × Unit)
def Qm.c (k : Nat) {ρ : Type} (b0 : (List Int)) (K : Qm.τ → Option ρ) : Option ρ :=
 (Qm.l0 k k ((0 : Int), (b0, ((List.replicate 64 (0 : Int)), ((List.replicate 64 (0 : Int)), ()))))).bind fun t10 => (Qm.l2 k k ((16 : Int), (t10.1, (t10.2.1, (t10.2.2.1, ()))))).bind fun t31 => let v32 : (List Int) := t31.2.2.1
 K (v32, (t31.1, ()))
def Qm (k : Nat) (b0 : (List Int)) : Option Qm.τ := Qm.c k b0 some
def Qm.T : Q1a := ⟨[.ptr 0 []], [.dat Qcw], 1⟩
def Qm.os : List Out := [⟨.ret, [.freeze (.slot 0), .auto 1], ⟨[.dat Qct], [.dat Qcw]⟩⟩]
def Qm.sem (k : Nat) : Qp := Q1g Qm.T Qm.os fun x => Qm k x.1
noncomputable def Qm.ctx (k : Nat) : Ctx := ⟨Tryz.prog, gam [(140, (Q0A.sem k))]⟩
theorem Qm.gok (k : Nat) : ∀ f, Qh Tryz.prog f ((Qm.ctx k).Γ f) := (Qf (Q0A.sem_ok k) QO)
theorem Qm.l1.round (k : Nat) : Q0Q (Qm.ctx k) (Q08 (Func.code Tryz.f138) [1, 1, 0, 1, 0, 0, 1, 1, 0, 0, 1, 1, 0, 0]) (.nil) Qm.l1.T [.mask [0, 2, 3, 4, 12, 22, 23, 24], .auto 1] Qm.l1.os (Qm.l1.r k) := by
 intro ρ x kn ke; kernel_rfl
theorem Qm.l1.ok (k : Nat) : StOK 1 Tryz.prog (.loop (Q08 (Func.code Tryz.f138) [1, 1, 0, 1, 0, 0, 1, 1, 0, 0, 1, 1, 0, 0])) (Qr Qm.l1.T Qm.l1.os (Qm.l1 k k)) :=
 Q0R (C := Qm.ctx k) (Qm.gok k) Tryz.mix Q0.nil (by kernel_rfl) (by kernel_rfl) (by kernel_rfl) (Qm.l1.round k) k
theorem Qm.l2.round (k : Nat) : Q0Q (Qm.ctx k) (Q08 (Func.code Tryz.f138) [1, 1, 1, 0, 1, 0, 0]) (.nil) Qm.l2.T [.mask [2, 3, 7], .auto 1] Qm.l2.os (Qm.l2.r k) := by
 intro ρ x kn ke; kernel_rfl
theorem Qm.l2.ok (k : Nat) : StOK 1 Tryz.prog (.loop (Q08 (Func.code Tryz.f138) [1, 1, 1, 0, 1, 0, 0])) (Qr Qm.l2.T Qm.l2.os (Qm.l2 k k)) :=
 Q0R (C := Qm.ctx k) (Qm.gok k) Tryz.mix Q0.nil (by kernel_rfl) (by kernel_rfl) (by kernel_rfl) (Qm.l2.round k) k
theorem Qm.l0.round (k : Nat) : Q0Q (Qm.ctx k) (Q08 (Func.code Tryz.f138) [1, 1, 0, 1, 0, 0]) (.node [] none (.nil) (.node [] none (.nil) (.node [] none (.node [] none (.node [] none (.nil) (.node [] none (.nil) (.node [] none (.node [.mask [0, 2, 3, 4, 12, 22, 23, 24], .auto 1] (some (Qr Qm.l1.T Qm.l1.os (Qm.l1 k k))) .nil .nil) (.nil)))) (.nil)) (.nil)))) Qm.l0.T [.mask [0, 2, 3, 12], .auto 1] Qm.l0.os (Qm.l0.r k) := by
 intro ρ x kn ke; kernel_rfl
theorem Qm.l0.ok (k : Nat) : StOK 1 Tryz.prog (.loop (Q08 (Func.code Tryz.f138) [1, 1, 0, 1, 0, 0])) (Qr Qm.l0.T Qm.l0.os (Qm.l0 k k)) :=
 Q0R (C := Qm.ctx k) (Qm.gok k) Tryz.mix (Q0.seq Q0.nil (Q0.seq Q0.nil (Q0.seq (Q0.block (Q0.seq Q0.nil (Q0.seq Q0.nil (Q0.block (Q0.loop (by kernel_rfl) (Qm.l1.ok k)))))) Q0.nil))) (by kernel_rfl) (by kernel_rfl) (by kernel_rfl) (Qm.l0.round k) k
def Qm.ann (k : Nat) : Ann := .node [] none (.nil) (.node [] none (.nil) (.node [] none (.node [] none (.nil) (.node [] none (.node [.mask [0, 2, 3, 12], .auto 1] (some (Qr Qm.l0.T Qm.l0.os (Qm.l0 k k))) .nil .nil) (.nil))) (.node [] none (.node [] none (.nil) (.node [] none (.node [.mask [2, 3, 7], .auto 1] (some (Qr Qm.l2.T Qm.l2.os (Qm.l2 k k))) .nil .nil) (.nil))) (.nil))))
theorem Qm.body (k : Nat) : Q1m (Qm.ctx k) Tryz.f138 (Func.code Tryz.f138) (Qm.ann k) Qm.T Qm.os (fun x K => Qm.c k x.1 K) := by
 intro ρ x K; kernel_rfl
theorem Qm.sem_ok (k : Nat) : Qh Tryz.prog 138 (Qm.sem k) :=
 Q0S (C := Qm.ctx k) (Qm.gok k) Tryz.mix (c := Func.code Tryz.f138) (ann := Qm.ann k) (T := Qm.T) (os := Qm.os) (fun x K => Qm.c k x.1 K) Tryz.func138 (by kernel_rfl) (by kernel_rfl) (Q0.seq Q0.nil (Q0.seq Q0.nil (Q0.seq (Q0.seq Q0.nil (Q0.block (Q0.loop (by kernel_rfl) (Qm.l0.ok k)))) (Q0.seq (Q0.seq Q0.nil (Q0.block (Q0.loop (by kernel_rfl) (Qm.l2.ok k)))) Q0.nil)))) (Qm.body k) (by kernel_rfl) (by kernel_rfl) (by kernel_rfl)
abbrev Q0q.τ : Type := Qcx 
def Q0q.c (k : Nat) {ρ : Type}  (K : Q0q.τ → Option ρ) : Option ρ :=
 let v0 : (List Int) := (List.set (List.set (List.set (List.set (List.set (List.set (List.set (List.set (List.set (List.set (List.set (List.set (List.set (List.set (List.set (List.set (List.set (List.set (List.set (List.set (List.set (List.set (List.set (List.set (List.set (List.set (List.set (List.set (List.set (List.set (List.set (List.set (List.set (List.set (List.set (List.set (List.set (List.set (List.set (List.set (List.set (List.set (List.set (List.set (List.set (List.set (List.set (List.set (List.set (List.set (List.set (List.set (List.set (List.set (List.set (List.set (List.set (List.set (List.set (List.set (List.set (List.set (List.set (List.set (List.replicate 64 (0 : Int)) 0 (1116352408 : Int)) 1 (1899447441 : Int)) 2 (3049323471 : Int)) 3 (3921009573 : Int)) 4 (961987163 : Int)) 5 (1508970993 : Int)) 6 (2453635748 : Int)) 7 (2870763221 : Int)) 8 (3624381080 : Int)) 9 (310598401 : Int)) 10 (607225278 : Int)) 11 (1426881987 : Int)) 12 (1925078388 : Int)) 13 (2162078206 : Int)) 14 (2614888103 : Int)) 15 (3248222580 : Int)) 16 (3835390401 : Int)) 17 (4022224774 : Int)) 18 (264347078 : Int)) 19 (604807628 : Int)) 20 (770255983 : Int)) 21 (1249150122 : Int)) 22 (1555081692 : Int)) 23 (1996064986 : Int)) 24 (2554220882 : Int)) 25 (2821834349 : Int)) 26 (2952996808 : Int)) 27 (3210313671 : Int)) 28 (3336571891 : Int)) 29 (3584528711 : Int)) 30 (113926993 : Int)) 31 (338241895 : Int)) 32 (666307205 : Int)) 33 (773529912 : Int)) 34 (1294757372 : Int)) 35 (1396182291 : Int)) 36 (1695183700 : Int)) 37 (1986661051 : Int)) 38 (2177026350 : Int)) 39 (2456956037 : Int)) 40 (2730485921 : Int)) 41 (2820302411 : Int)) 42 (3259730800 : Int)) 43 (3345764771 : Int)) 44 (3516065817 : Int)) 45 (3600352804 : Int)) 46 (4094571909 : Int)) 47 (275423344 : Int)) 48 (430227734 : Int)) 49 (506948616 : Int)) 50 (659060556 : Int)) 51 (883997877 : Int)) 52 (958139571 : Int)) 53 (1322822218 : Int)) 54 (1537002063 : Int)) 55 (1747873779 : Int)) 56 (1955562222 : Int)) 57 (2024104815 : Int)) 58 (2227730452 : Int)) 59 (2361852424 : Int)) 60 (2428436474 : Int)) 61 (2756734187 : Int)) 62 (3204031479 : Int)) 63 (3329325298 : Int))
 K (v0, ())
def Q0q (k : Nat)  : Option Q0q.τ := Q0q.c k  some
def Q0q.T : Q1a := ⟨[], [], 0⟩
def Q0q.os : List Out := [⟨.ret, [.auto 0], ⟨[.ptr 0 []], [.dat Qct]⟩⟩]
def Q0q.sem (k : Nat) : Qp := Q1g Q0q.T Q0q.os fun x => Q0q k 
noncomputable def Q0q.ctx (k : Nat) : Ctx := ⟨Tryz.prog, gam []⟩
theorem Q0q.gok (k : Nat) : ∀ f, Qh Tryz.prog f ((Q0q.ctx k).Γ f) := QO
def Q0q.ann (k : Nat) : Ann := .nil
theorem Q0q.body (k : Nat) : Q1m (Q0q.ctx k) Tryz.f139 (Func.code Tryz.f139) (Q0q.ann k) Q0q.T Q0q.os (fun x K => Q0q.c k  K) := by
 intro ρ x K; kernel_rfl
theorem Q0q.sem_ok (k : Nat) : Qh Tryz.prog 139 (Q0q.sem k) :=
 Q0S (C := Q0q.ctx k) (Q0q.gok k) Tryz.mix (c := Func.code Tryz.f139) (ann := Q0q.ann k) (T := Q0q.T) (os := Q0q.os) (fun x K => Q0q.c k  K) Tryz.func139 (by kernel_rfl) (by kernel_rfl) Q0.nil (Q0q.body k) (by kernel_rfl) (by kernel_rfl) (by kernel_rfl)
abbrev QM.l0.σ : Type := Int × (List Int) × (List Int) × (List Int) × (List Int) × (List Int) × Unit
abbrev QM.l0.τ : Type := Qcp 
def QM.l0.r (k : Nat) {ρ : Type} (x : QM.l0.σ) (kn : QM.l0.σ → Option ρ) (ke : QM.l0.τ → Option ρ) : Option ρ :=
 bif (decide (x.1 < (64 : Int))) then (let v2 : Int := (List.getD x.2.2.2.2.2.1 0 (0 : Int))
 let v3 : Int := (List.getD x.2.2.2.2.2.1 4 (0 : Int))
 (Q0A k v3 (6 : Int)).bind fun t4 => (Q0A k v3 (11 : Int)).bind fun t5 => let v6 : Int := (Q0Z BinOp.xor IntKind.u32 t4.1 t5.1)
 (Q0A k v3 (25 : Int)).bind fun t7 => let v8 : Int := (Q0Z BinOp.xor IntKind.u32 v6 t7.1)
 (Q0A k v2 (2 : Int)).bind fun t9 => (Q0A k v2 (13 : Int)).bind fun t10 => let v11 : Int := (Q0Z BinOp.xor IntKind.u32 t9.1 t10.1)
 (Q0A k v2 (22 : Int)).bind fun t12 => let v13 : Int := (Q0Z BinOp.xor IntKind.u32 v11 t12.1)
 let v14 : Int := (List.getD x.2.2.2.2.2.1 5 (0 : Int))
 let v15 : Int := (List.getD x.2.2.2.2.2.1 6 (0 : Int))
 let v16 : Int := (Q0Z BinOp.xor IntKind.u32 (Q0Z BinOp.and IntKind.u32 v3 v14) (Q0Z BinOp.and IntKind.u32 (notI IntKind.u32 v3) v15))
 let v17 : Int := (List.getD x.2.2.2.2.2.1 1 (0 : Int))
 let v18 : Int := (List.getD x.2.2.2.2.2.1 2 (0 : Int))
 let v19 : Int := (Q0Z BinOp.xor IntKind.u32 (Q0Z BinOp.and IntKind.u32 v2 v17) (Q0Z BinOp.and IntKind.u32 v2 v18))
 let v20 : Int := (List.getD x.2.2.2.2.2.1 1 (0 : Int))
 let v21 : Int := (List.getD x.2.2.2.2.2.1 2 (0 : Int))
 let v22 : Int := (Q0Z BinOp.xor IntKind.u32 v19 (Q0Z BinOp.and IntKind.u32 v20 v21))
 let v23 : Int := (List.getD x.2.2.2.2.2.1 7 (0 : Int))
 let v24 : Int := (IntKind.wrap IntKind.u32 (v23 + v8))
 let v25 : Int := (IntKind.wrap IntKind.u32 (v24 + v16))
 bif (decide (((0 : Int) ≤ x.1) ∧ (x.1 < ((64 : Nat) : Int)))) then (let v26 : Int := (List.getD x.2.2.2.2.1 (Int.toNat x.1) (0 : Int))
 let v27 : Int := (IntKind.wrap IntKind.u32 (v25 + v26))
 bif (decide (((0 : Int) ≤ x.1) ∧ (x.1 < ((64 : Nat) : Int)))) then (let v28 : Int := (List.getD x.2.2.2.1 (Int.toNat x.1) (0 : Int))
 let v29 : Int := (IntKind.wrap IntKind.u32 (v27 + v28))
 let v30 : Int := (IntKind.wrap IntKind.u32 (v29 + v13))
 let v31 : Int := (IntKind.wrap IntKind.u32 (v30 + v22))
 let v32 : Int := (List.getD x.2.2.2.2.2.1 0 (0 : Int))
 let v33 : Int := (List.getD x.2.2.2.2.2.1 1 (0 : Int))
 let v34 : Int := (List.getD x.2.2.2.2.2.1 2 (0 : Int))
 let v35 : Int := (List.getD x.2.2.2.2.2.1 3 (0 : Int))
 let v36 : Int := (IntKind.wrap IntKind.u32 (v35 + v29))
 let v37 : Int := (List.getD x.2.2.2.2.2.1 4 (0 : Int))
 let v38 : Int := (List.getD x.2.2.2.2.2.1 5 (0 : Int))
 let v39 : Int := (List.getD x.2.2.2.2.2.1 6 (0 : Int))
 let v40 : (List Int) := (List.set (List.set (List.set (List.set (List.set (List.set (List.set (List.set (List.replicate 8 (0 : Int)) 0 v31) 1 v32) 2 v33) 3 v34) 4 v36) 5 v37) 6 v38) 7 v39)
 let v41 : Int := (IntKind.wrap IntKind.i64 (x.1 + (1 : Int)))
 kn (v41, (x.2.1, (x.2.2.1, (x.2.2.2.1, (x.2.2.2.2.1, (v40, ()))))))) else (none)) else (none)) else (ke (x.2.1, (x.2.2.1, (x.2.2.2.2.2.1, ()))))
def QM.l0 (k : Nat) : Nat → QM.l0.σ → Option QM.l0.τ := Q12 (QM.l0.r k)
def QM.l0.T : StT := ⟨us 2 ++ .ptr 0 [] :: us 1 ++ .ptr 1 [] :: .ptr 2 [] :: .ptr 3 [] :: .ptr 4 [] :: us 12 ++ .dat (.int .i64) :: us 99, [.dat Qcv, .dat Qcv, .dat Qct, .dat Qct, .dat Qcv]⟩
def QM.l0.os : List Out := [⟨(.exit 0), [.mask [2, 4, 7], .auto 0], ⟨us 2 ++ .ptr 0 [] :: us 1 ++ .ptr 1 [] :: us 2 ++ .ptr 2 [] :: us 112, [.dat Qcv, .dat Qcv, .dat Qcv]⟩⟩]
abbrev QM.l1.σ : Type := Int × (List Int) × (List Int) × (List Int) × Unit
abbrev QM.l1.τ : Type := ((List Int) × (List Int) × Unit)
def QM.l1.r (k : Nat) {ρ : Type} (x : QM.l1.σ) (kn : QM.l1.σ → Option ρ) (ke : QM.l1.τ → Option ρ) : Option ρ :=
 bif (decide (x.1 < (8 : Int))) then (bif (decide (((0 : Int) ≤ x.1) ∧ (x.1 < ((8 : Nat) : Int)))) then (let v43 : Int := (List.getD x.2.2.2.1 (Int.toNat x.1) (0 : Int))
 bif (decide (((0 : Int) ≤ x.1) ∧ (x.1 < ((8 : Nat) : Int)))) then (let v44 : Int := (List.getD x.2.1 (Int.toNat x.1) (0 : Int))
 let v45 : Int := (IntKind.wrap IntKind.u32 (v43 + v44))
 bif (decide (((0 : Int) ≤ x.1) ∧ (x.1 < ((8 : Nat) : Int)))) then (let v46 : Int := (IntKind.wrap IntKind.i64 (x.1 + (1 : Int)))
 kn (v46, (x.2.1, (x.2.2.1, ((List.set x.2.2.2.1 (Int.toNat x.1) v45), ()))))) else (none)) else (none)) else (none)) else (ke (x.2.2.1, (x.2.2.2.1, ())))
def QM.l1 (k : Nat) : Nat → QM.l1.σ → Option QM.l1.τ := Q12 (QM.l1.r k)
def QM.l1.T : StT := ⟨us 2 ++ .ptr 0 [] :: us 1 ++ .ptr 1 [] :: us 2 ++ .ptr 2 [] :: us 99 ++ .dat (.int .i64) :: us 12, [.dat Qcv, .dat Qcv, .dat Qcv]⟩
def QM.l1.os : List Out := [⟨(.exit 2), [.mask [4, 7], .auto 0], ⟨us 4 ++ .ptr 0 [] :: us 2 ++ .ptr 1 [] :: us 112, [.dat Qcv, .dat Qcv]⟩⟩]
def QM.c (k : Nat) {ρ : Type} (x_0 : (List Int)) (block : (List Int)) (K : (List Int) × Unit → Option ρ) : Option ρ :=
 (Qm k block).bind fun t0 => (Q0q k ).bind fun t1 => (QM.l0 k k ((0 : Int), (x_0, ((List.replicate 8 (0 : Int)), (t0.1, (t1.1, (x_0, ()))))))).bind fun t42 => (QM.l1 k k ((0 : Int), (t42.1, (t42.2.1, (t42.2.2.1, ()))))).bind fun t47 => let v48 : (List Int) := t47.2.1
 K (v48, ())
def QM (k : Nat) (x_0 : (List Int)) (block : (List Int)) : Option Qcx := QM.c k x_0 block some
def QM.tin : List Ty := [Qcv, Qcw]
def QM.tout : List Ty := [Qcv]
def QM.sem (k : Nat) : Qp := Qt QM.tin QM.tout fun x => QM k x.1 x.2.1
noncomputable def QM.ctx (k : Nat) : Ctx := ⟨Tryz.prog, gam [(138, (Qm.sem k)), (139, (Q0q.sem k)), (140, (Q0A.sem k))]⟩
theorem QM.gok (k : Nat) : ∀ f, Qh Tryz.prog f ((QM.ctx k).Γ f) := (Qf (Qm.sem_ok k) (Qf (Q0q.sem_ok k) (Qf (Q0A.sem_ok k) QO)))
theorem QM.l1.round (k : Nat) : Q0Q (QM.ctx k) (Q08 (Func.code Tryz.f124) [1, 1, 1, 1, 0, 1, 0, 0]) (.nil) QM.l1.T [.mask [2, 4, 7, 107], .auto 0] QM.l1.os (QM.l1.r k) := by
 intro ρ x kn ke; kernel_rfl
theorem QM.l1.ok (k : Nat) : StOK 0 Tryz.prog (.loop (Q08 (Func.code Tryz.f124) [1, 1, 1, 1, 0, 1, 0, 0])) (Qr QM.l1.T QM.l1.os (QM.l1 k k)) :=
 Q0R (C := QM.ctx k) (QM.gok k) Tryz.mix Q0.nil (by kernel_rfl) (by kernel_rfl) (by kernel_rfl) (QM.l1.round k) k
theorem QM.l0.round (k : Nat) : Q0Q (QM.ctx k) (Q08 (Func.code Tryz.f124) [1, 1, 1, 0, 1, 0, 0]) (.nil) QM.l0.T [.mask [2, 4, 5, 6, 7, 20], .auto 0] QM.l0.os (QM.l0.r k) := by
 intro ρ x kn ke; kernel_rfl
theorem QM.l0.ok (k : Nat) : StOK 0 Tryz.prog (.loop (Q08 (Func.code Tryz.f124) [1, 1, 1, 0, 1, 0, 0])) (Qr QM.l0.T QM.l0.os (QM.l0 k k)) :=
 Q0R (C := QM.ctx k) (QM.gok k) Tryz.mix Q0.nil (by kernel_rfl) (by kernel_rfl) (by kernel_rfl) (QM.l0.round k) k
def QM.ann (k : Nat) : Ann := .node [] none (.nil) (.node [] none (.nil) (.node [] none (.nil) (.node [] none (.node [] none (.nil) (.node [] none (.node [.mask [2, 4, 5, 6, 7, 20], .auto 0] (some (Qr QM.l0.T QM.l0.os (QM.l0 k k))) .nil .nil) (.nil))) (.node [] none (.node [] none (.nil) (.node [] none (.node [.mask [2, 4, 7, 107], .auto 0] (some (Qr QM.l1.T QM.l1.os (QM.l1 k k))) .nil .nil) (.nil))) (.nil)))))
theorem QM.body (k : Nat) : Q0I (QM.ctx k) Tryz.f124 (Func.code Tryz.f124) (QM.ann k) QM.tin QM.tout (fun x K => QM.c k x.1 x.2.1 K) := by
 intro ρ x K; kernel_rfl
theorem QM.sem_ok (k : Nat) : Qh Tryz.prog 124 (QM.sem k) :=
 Qv (C := QM.ctx k) (QM.gok k) Tryz.mix (c := Func.code Tryz.f124) (ann := QM.ann k) (tin := QM.tin) (tout := QM.tout) (fun x K => QM.c k x.1 x.2.1 K) Tryz.func124 (by kernel_rfl) (by kernel_rfl) (Q0.seq Q0.nil (Q0.seq Q0.nil (Q0.seq Q0.nil (Q0.seq (Q0.seq Q0.nil (Q0.block (Q0.loop (by kernel_rfl) (QM.l0.ok k)))) (Q0.seq (Q0.seq Q0.nil (Q0.block (Q0.loop (by kernel_rfl) (QM.l1.ok k)))) Q0.nil))))) (QM.body k)
abbrev Qi.l0.σ : Type := Qcq × (List Int) × Unit
abbrev Qi.l0.τ : Type := Qcn 
def Qi.l0.r (k : Nat) {ρ : Type} (x : Qi.l0.σ) (kn : Qi.l0.σ → Option ρ) (ke : Qi.l0.τ → Option ρ) : Option ρ :=
 let v2 : Int := (((List.length x.2.1) : Nat) : Int)
 bif (decide (v2 ≥ (64 : Int))) then (let v3 : (List Int) := x.1.1
 bif (decide (64 ≤ (List.length x.2.1))) then (let v4 : (List Int) := (List.take 64 (List.drop 0 x.2.1))
 (QM k v3 v4).bind fun t5 => bif (decide (((0 : Int) ≤ (64 : Int)) ∧ (((64 : Int) ≤ (((List.length x.2.1) : Nat) : Int)) ∧ ((((List.length x.2.1) : Nat) : Int) ≤ (((List.length x.2.1) : Nat) : Int))))) then (kn ((t5.1, ((), (x.1.2.2.1, ()))), ((List.take (Int.toNat ((((List.length x.2.1) : Nat) : Int) - (64 : Int))) (List.drop 64 x.2.1)), ()))) else (none)) else (none)) else (ke ((x.1.1, ((), (x.1.2.2.1, ()))), (x.2.1, ())))
def Qi.l0 (k : Nat) : Nat → Qi.l0.σ → Option Qi.l0.τ := Q12 (Qi.l0.r k)
def Qi.l0.T : StT := ⟨.ptr 0 [] :: us 52, [.pair (.dat Qcv) (.pair (.vsl 1) (.dat Qcs)), .vec (.int .u8)]⟩
def Qi.l0.os : List Out := [⟨(.exit 0), [.mask [], .auto 1], ⟨us 53, [.pair (.dat Qcv) (.pair (.vsl 1) (.dat Qcs)), .vec (.int .u8)]⟩⟩]
abbrev Qi.τ : Type := Qcn 
def Qi.c (k : Nat) {ρ : Type} (s : ByteArray) (b0 : Qcq) (K : Qi.τ → Option ρ) : Option ρ :=
 let v0 : Int := b0.2.2.1
 let v1 : Int := (IntKind.wrap IntKind.u64 (v0 + (IntKind.wrap IntKind.u64 (((ByteArray.size s) : Nat) : Int))))
 bif (Nat.ble ((List.length (Q1q s)) * 1) 140737488355328) then ((Qi.l0 k k ((b0.1, ((), (v1, ()))), ((Q1q s), ()))).bind fun t6 => K ((t6.1.1, ((), (t6.1.2.2.1, ()))), (t6.2.1, ()))) else (none)
def Qi (k : Nat) (s : ByteArray) (b0 : Qcq) : Option Qi.τ := Qi.c k s b0 some
def Qi.T : Q1a := ⟨[.ptr 0 [], .dat .str], [.pair (.dat Qcv) (.pair (.nils) (.dat Qcs))], 1⟩
def Qi.os : List Out := [⟨.ret, [.auto 1], ⟨[], [.pair (.dat Qcv) (.pair (.vsl 1) (.dat Qcs)), .vec (.int .u8)]⟩⟩]
def Qi.sem (k : Nat) : Qp := Q1g Qi.T Qi.os fun x => Qi k x.1 x.2.1
noncomputable def Qi.ctx (k : Nat) : Ctx := ⟨Tryz.prog, gam [(124, (QM.sem k))]⟩
theorem Qi.gok (k : Nat) : ∀ f, Qh Tryz.prog f ((Qi.ctx k).Γ f) := (Qf (QM.sem_ok k) QO)
theorem Qi.l0.round (k : Nat) : Q0Q (Qi.ctx k) (Q08 (Func.code Tryz.f97) [1, 1, 1, 0, 0]) (.nil) Qi.l0.T [.mask [0], .auto 1] Qi.l0.os (Qi.l0.r k) := by
 intro ρ x kn ke; kernel_rfl
theorem Qi.l0.ok (k : Nat) : StOK 1 Tryz.prog (.loop (Q08 (Func.code Tryz.f97) [1, 1, 1, 0, 0])) (Qr Qi.l0.T Qi.l0.os (Qi.l0 k k)) :=
 Q0R (C := Qi.ctx k) (Qi.gok k) Tryz.mix Q0.nil (by kernel_rfl) (by kernel_rfl) (by kernel_rfl) (Qi.l0.round k) k
def Qi.ann (k : Nat) : Ann := .node [] none (.nil) (.node [] none (.nil) (.node [] none (.nil) (.node [] none (.node [.mask [0], .auto 1] (some (Qr Qi.l0.T Qi.l0.os (Qi.l0 k k))) .nil .nil) (.nil))))
theorem Qi.body (k : Nat) : Q1m (Qi.ctx k) Tryz.f97 (Func.code Tryz.f97) (Qi.ann k) Qi.T Qi.os (fun x K => Qi.c k x.1 x.2.1 K) := by
 intro ρ x K; kernel_rfl
theorem Qi.sem_ok (k : Nat) : Qh Tryz.prog 97 (Qi.sem k) :=
 Q0S (C := Qi.ctx k) (Qi.gok k) Tryz.mix (c := Func.code Tryz.f97) (ann := Qi.ann k) (T := Qi.T) (os := Qi.os) (fun x K => Qi.c k x.1 x.2.1 K) Tryz.func97 (by kernel_rfl) (by kernel_rfl) (Q0.seq Q0.nil (Q0.seq Q0.nil (Q0.seq Q0.nil (Q0.block (Q0.loop (by kernel_rfl) (Qi.l0.ok k)))))) (Qi.body k) (by kernel_rfl) (by kernel_rfl) (by kernel_rfl)
abbrev Q05.τ : Type := (Qcq × (List Int) × Qcq × (List Int) × Unit)
def Q05.c (k : Nat) {ρ : Type} (b0 : Qcq) (b1 : (List Int)) (K : Q05.τ → Option ρ) : Option ρ :=
 let v0 : (List Int) := b0.1
 bif (Nat.ble ((List.length b1) * 1) 140737488355328) then (let v1 : Int := b0.2.2.1
 K ((b0.1, ((), (b0.2.2.1, ()))), (b1, ((v0, ((), (v1, ()))), (b1, ()))))) else (none)
def Q05 (k : Nat) (b0 : Qcq) (b1 : (List Int)) : Option Q05.τ := Q05.c k b0 b1 some
def Q05.T : Q1a := ⟨[.ptr 0 []], [.pair (.dat Qcv) (.pair (.vsl 1) (.dat Qcs)), .vec (.int .u8)], 1⟩
def Q05.os : List Out := [⟨.ret, [.auto 1], ⟨[.ptr 2 []], [.pair (.dat Qcv) (.pair (.vsl 1) (.dat Qcs)), .vec (.int .u8), .pair (.dat Qcv) (.pair (.vsl 3) (.dat Qcs)), .vec (.int .u8)]⟩⟩]
def Q05.sem (k : Nat) : Qp := Q1g Q05.T Q05.os fun x => Q05 k x.1 x.2.1
noncomputable def Q05.ctx (k : Nat) : Ctx := ⟨Tryz.prog, gam []⟩
theorem Q05.gok (k : Nat) : ∀ f, Qh Tryz.prog f ((Q05.ctx k).Γ f) := QO
def Q05.ann (k : Nat) : Ann := .nil
theorem Q05.body (k : Nat) : Q1m (Q05.ctx k) Tryz.f125 (Func.code Tryz.f125) (Q05.ann k) Q05.T Q05.os (fun x K => Q05.c k x.1 x.2.1 K) := by
 intro ρ x K; kernel_rfl
theorem Q05.sem_ok (k : Nat) : Qh Tryz.prog 125 (Q05.sem k) :=
 Q0S (C := Q05.ctx k) (Q05.gok k) Tryz.mix (c := Func.code Tryz.f125) (ann := Q05.ann k) (T := Q05.T) (os := Q05.os) (fun x K => Q05.c k x.1 x.2.1 K) Tryz.func125 (by kernel_rfl) (by kernel_rfl) Q0.nil (Q05.body k) (by kernel_rfl) (by kernel_rfl) (by kernel_rfl)
abbrev Q0H.l0.σ : Type := Int × Int × (List Int) × Unit
abbrev Q0H.l0.τ : Type := Qcx 
def Q0H.l0.r (k : Nat) {ρ : Type} (x : Q0H.l0.σ) (kn : Q0H.l0.σ → Option ρ) (ke : Q0H.l0.τ → Option ρ) : Option ρ :=
 bif (decide (x.2.1 < (8 : Int))) then (let v5 : Int := (Q31 IntKind.u64 x.1 (3 : Int))
 let v6 : Int := (IntKind.wrap IntKind.i64 ((7 : Int) - x.2.1))
 let v7 : Int := (IntKind.wrap IntKind.i64 ((8 : Int) * v6))
 bif (decide ((0 : Int) ≤ v7)) then (bif (Nat.ble (((List.length x.2.2.1) + (List.length (List.set (List.replicate 1 (0 : Int)) 0 (IntKind.wrap IntKind.u8 (Q1P IntKind.u64 v5 v7))))) * 1) 140737488355328) then (let v8 : Int := (IntKind.wrap IntKind.i64 (x.2.1 + (1 : Int)))
 kn (x.1, (v8, ((x.2.2.1 ++ (List.set (List.replicate 1 (0 : Int)) 0 (IntKind.wrap IntKind.u8 (Q1P IntKind.u64 v5 v7)))), ())))) else (none)) else (none)) else (ke (x.2.2.1, ()))
def Q0H.l0 (k : Nat) : Nat → Q0H.l0.σ → Option Q0H.l0.τ := Q12 (Q0H.l0.r k)
def Q0H.l0.T : StT := ⟨.dat (.int .u64) :: us 3 ++ .vsl 0 :: us 14 ++ .dat (.int .i64) :: us 15, [.vec (.int .u8)]⟩
def Q0H.l0.os : List Out := [⟨(.exit 0), [.mask [4], .auto 0], ⟨us 4 ++ .vsl 0 :: us 30, [.vec (.int .u8)]⟩⟩]
def Q0H.c (k : Nat) {ρ : Type} (n : Int) (K : ByteArray × Unit → Option ρ) : Option ρ :=
 let v0 : Int := (IntKind.wrap IntKind.i64 (Int.tmod n (64 : Int)))
 let v1 : Int := (IntKind.wrap IntKind.i64 ((119 : Int) - v0))
 let v2 : Int := (IntKind.wrap IntKind.i64 ((1 : Int) + (Int.tmod v1 (64 : Int))))
 let v3 : Int := (IntKind.wrap IntKind.i64 ((1 : Int) + (Int.tmod v1 (64 : Int))))
 let v4 : Int := (IntKind.wrap IntKind.i64 (v3 + (8 : Int)))
 bif ((decide (((0 : Int) ≤ v2) ∧ (v2 ≤ v4))) && (Nat.ble ((Int.toNat v4) * 1) 140737488355328)) then (bif (decide (((0 : Int) ≤ (0 : Int)) ∧ ((0 : Int) < (((List.length (List.replicate (Int.toNat v2) (0 : Int))) : Nat) : Int)))) then ((Q0H.l0 k k (n, ((0 : Int), ((List.set (List.replicate (Int.toNat v2) (0 : Int)) 0 (128 : Int)), ())))).bind fun t9 => K ((bytesOf t9.1), ())) else (none)) else (none)
def Q0H (k : Nat) (n : Int) : Option (ByteArray × Unit) := Q0H.c k n some
def Q0H.tin : List Ty := [(.int .u64)]
def Q0H.tout : List Ty := [.str]
def Q0H.sem (k : Nat) : Qp := Qt Q0H.tin Q0H.tout fun x => Q0H k x.1
noncomputable def Q0H.ctx (k : Nat) : Ctx := ⟨Tryz.prog, gam []⟩
theorem Q0H.gok (k : Nat) : ∀ f, Qh Tryz.prog f ((Q0H.ctx k).Γ f) := QO
theorem Q0H.l0.round (k : Nat) : Q0Q (Q0H.ctx k) (Q08 (Func.code Tryz.f126) [1, 1, 1, 1, 0, 1, 0, 0]) (.nil) Q0H.l0.T [.mask [0, 4, 19], .auto 0] Q0H.l0.os (Q0H.l0.r k) := by
 intro ρ x kn ke; kernel_rfl
theorem Q0H.l0.ok (k : Nat) : StOK 0 Tryz.prog (.loop (Q08 (Func.code Tryz.f126) [1, 1, 1, 1, 0, 1, 0, 0])) (Qr Q0H.l0.T Q0H.l0.os (Q0H.l0 k k)) :=
 Q0R (C := Q0H.ctx k) (Q0H.gok k) Tryz.mix Q0.nil (by kernel_rfl) (by kernel_rfl) (by kernel_rfl) (Q0H.l0.round k) k
def Q0H.ann (k : Nat) : Ann := .node [] none (.nil) (.node [] none (.nil) (.node [] none (.nil) (.node [] none (.nil) (.node [] none (.node [] none (.nil) (.node [] none (.node [.mask [0, 4, 19], .auto 0] (some (Qr Q0H.l0.T Q0H.l0.os (Q0H.l0 k k))) .nil .nil) (.nil))) (.nil)))))
theorem Q0H.body (k : Nat) : Q0I (Q0H.ctx k) Tryz.f126 (Func.code Tryz.f126) (Q0H.ann k) Q0H.tin Q0H.tout (fun x K => Q0H.c k x.1 K) := by
 intro ρ x K; kernel_rfl
theorem Q0H.sem_ok (k : Nat) : Qh Tryz.prog 126 (Q0H.sem k) :=
 Qv (C := Q0H.ctx k) (Q0H.gok k) Tryz.mix (c := Func.code Tryz.f126) (ann := Q0H.ann k) (tin := Q0H.tin) (tout := Q0H.tout) (fun x K => Q0H.c k x.1 K) Tryz.func126 (by kernel_rfl) (by kernel_rfl) (Q0.seq Q0.nil (Q0.seq Q0.nil (Q0.seq Q0.nil (Q0.seq Q0.nil (Q0.seq (Q0.seq Q0.nil (Q0.block (Q0.loop (by kernel_rfl) (Q0H.l0.ok k)))) Q0.nil))))) (Q0H.body k)
abbrev Qe.l0.σ : Type := Qcq × (List Int) × Unit
abbrev Qe.l0.τ : Type := Qcn 
def Qe.l0.r (k : Nat) {ρ : Type} (x : Qe.l0.σ) (kn : Qe.l0.σ → Option ρ) (ke : Qe.l0.τ → Option ρ) : Option ρ :=
 let v2 : Int := (((List.length x.2.1) : Nat) : Int)
 bif (decide (v2 ≥ (64 : Int))) then (let v3 : (List Int) := x.1.1
 bif (decide (64 ≤ (List.length x.2.1))) then (let v4 : (List Int) := (List.take 64 (List.drop 0 x.2.1))
 (QM k v3 v4).bind fun t5 => bif (decide (((0 : Int) ≤ (64 : Int)) ∧ (((64 : Int) ≤ (((List.length x.2.1) : Nat) : Int)) ∧ ((((List.length x.2.1) : Nat) : Int) ≤ (((List.length x.2.1) : Nat) : Int))))) then (kn ((t5.1, ((), (x.1.2.2.1, ()))), ((List.take (Int.toNat ((((List.length x.2.1) : Nat) : Int) - (64 : Int))) (List.drop 64 x.2.1)), ()))) else (none)) else (none)) else (ke ((x.1.1, ((), (x.1.2.2.1, ()))), (x.2.1, ())))
def Qe.l0 (k : Nat) : Nat → Qe.l0.σ → Option Qe.l0.τ := Q12 (Qe.l0.r k)
def Qe.l0.T : StT := ⟨.ptr 0 [] :: us 52, [.pair (.dat Qcv) (.pair (.vsl 1) (.dat Qcs)), .vec (.int .u8)]⟩
def Qe.l0.os : List Out := [⟨(.exit 0), [.mask [], .auto 1], ⟨us 53, [.pair (.dat Qcv) (.pair (.vsl 1) (.dat Qcs)), .vec (.int .u8)]⟩⟩]
abbrev Qe.τ : Type := Qcn 
def Qe.c (k : Nat) {ρ : Type} (s : ByteArray) (b0 : Qcq) (b1 : (List Int)) (K : Qe.τ → Option ρ) : Option ρ :=
 let v0 : Int := b0.2.2.1
 let v1 : Int := (IntKind.wrap IntKind.u64 (v0 + (IntKind.wrap IntKind.u64 (((ByteArray.size s) : Nat) : Int))))
 bif (Nat.ble (((List.length b1) + (List.length (Q1q s))) * 1) 140737488355328) then ((Qe.l0 k k ((b0.1, ((), (v1, ()))), ((b1 ++ (Q1q s)), ()))).bind fun t6 => K ((t6.1.1, ((), (t6.1.2.2.1, ()))), (t6.2.1, ()))) else (none)
def Qe (k : Nat) (s : ByteArray) (b0 : Qcq) (b1 : (List Int)) : Option Qe.τ := Qe.c k s b0 b1 some
def Qe.T : Q1a := ⟨[.ptr 0 [], .dat .str], [.pair (.dat Qcv) (.pair (.vsl 1) (.dat Qcs)), .vec (.int .u8)], 1⟩
def Qe.os : List Out := [⟨.ret, [.auto 1], ⟨[], [.pair (.dat Qcv) (.pair (.vsl 1) (.dat Qcs)), .vec (.int .u8)]⟩⟩]
def Qe.sem (k : Nat) : Qp := Q1g Qe.T Qe.os fun x => Qe k x.1 x.2.1 x.2.2.1
noncomputable def Qe.ctx (k : Nat) : Ctx := ⟨Tryz.prog, gam [(124, (QM.sem k))]⟩
theorem Qe.gok (k : Nat) : ∀ f, Qh Tryz.prog f ((Qe.ctx k).Γ f) := (Qf (QM.sem_ok k) QO)
theorem Qe.l0.round (k : Nat) : Q0Q (Qe.ctx k) (Q08 (Func.code Tryz.f97) [1, 1, 1, 0, 0]) (.nil) Qe.l0.T [.mask [0], .auto 1] Qe.l0.os (Qe.l0.r k) := by
 intro ρ x kn ke; kernel_rfl
theorem Qe.l0.ok (k : Nat) : StOK 1 Tryz.prog (.loop (Q08 (Func.code Tryz.f97) [1, 1, 1, 0, 0])) (Qr Qe.l0.T Qe.l0.os (Qe.l0 k k)) :=
 Q0R (C := Qe.ctx k) (Qe.gok k) Tryz.mix Q0.nil (by kernel_rfl) (by kernel_rfl) (by kernel_rfl) (Qe.l0.round k) k
def Qe.ann (k : Nat) : Ann := .node [] none (.nil) (.node [] none (.nil) (.node [] none (.nil) (.node [] none (.node [.mask [0], .auto 1] (some (Qr Qe.l0.T Qe.l0.os (Qe.l0 k k))) .nil .nil) (.nil))))
theorem Qe.body (k : Nat) : Q1m (Qe.ctx k) Tryz.f97 (Func.code Tryz.f97) (Qe.ann k) Qe.T Qe.os (fun x K => Qe.c k x.1 x.2.1 x.2.2.1 K) := by
 intro ρ x K; kernel_rfl
theorem Qe.sem_ok (k : Nat) : Qh Tryz.prog 97 (Qe.sem k) :=
 Q0S (C := Qe.ctx k) (Qe.gok k) Tryz.mix (c := Func.code Tryz.f97) (ann := Qe.ann k) (T := Qe.T) (os := Qe.os) (fun x K => Qe.c k x.1 x.2.1 x.2.2.1 K) Tryz.func97 (by kernel_rfl) (by kernel_rfl) (Q0.seq Q0.nil (Q0.seq Q0.nil (Q0.seq Q0.nil (Q0.block (Q0.loop (by kernel_rfl) (Qe.l0.ok k)))))) (Qe.body k) (by kernel_rfl) (by kernel_rfl) (by kernel_rfl)
abbrev Qb.l1.σ : Type := Int × Int × (List Int) × Int × Int × Qcq × (List Int) × (List Int) × (List Int) × Unit
abbrev Qb.l1.τ : Type := ((List Int) × Int × Qcq × (List Int) × (List Int) × (List Int) × Unit)
def Qb.l1.r (k : Nat) {ρ : Type} (x : Qb.l1.σ) (kn : Qb.l1.σ → Option ρ) (ke : Qb.l1.τ → Option ρ) : Option ρ :=
 bif (decide (x.2.2.2.2.1 < (4 : Int))) then (let v6 : Int := (IntKind.wrap IntKind.i64 ((4 : Int) * x.1))
 let v7 : Int := (IntKind.wrap IntKind.i64 (v6 + x.2.2.2.2.1))
 let v8 : Int := (IntKind.wrap IntKind.i64 ((3 : Int) - x.2.2.2.2.1))
 let v9 : Int := (IntKind.wrap IntKind.i64 ((8 : Int) * v8))
 bif (decide ((0 : Int) ≤ v9)) then (let v10 : Int := (Q1P IntKind.u32 x.2.1 v9)
 bif (decide (((0 : Int) ≤ v7) ∧ (v7 < ((32 : Nat) : Int)))) then (let v11 : Int := (IntKind.wrap IntKind.i64 (x.2.2.2.2.1 + (1 : Int)))
 kn (x.1, (x.2.1, (x.2.2.1, (x.2.2.2.1, (v11, ((x.2.2.2.2.2.1.1, ((), (x.2.2.2.2.2.1.2.2.1, ()))), (x.2.2.2.2.2.2.1, (x.2.2.2.2.2.2.2.1, ((List.set x.2.2.2.2.2.2.2.2.1 (Int.toNat v7) (IntKind.wrap IntKind.u8 v10)), ())))))))))) else (none)) else (none)) else (ke (x.2.2.1, (x.2.2.2.1, ((x.2.2.2.2.2.1.1, ((), (x.2.2.2.2.2.1.2.2.1, ()))), (x.2.2.2.2.2.2.1, (x.2.2.2.2.2.2.2.1, (x.2.2.2.2.2.2.2.2.1, ())))))))
def Qb.l1 (k : Nat) : Nat → Qb.l1.σ → Option Qb.l1.τ := Q12 (Qb.l1.r k)
def Qb.l1.T : StT := ⟨us 2 ++ .ptr 2 [] :: us 1 ++ .ptr 3 [] :: .dat (.int .i64) :: .dat (.int .u32) :: us 17 ++ .dat Qcv :: .dat (.int .i64) :: us 3 ++ .dat (.int .i64) :: us 16, [.pair (.dat Qcv) (.pair (.vsl 1) (.dat Qcs)), .vec (.int .u8), .dat Qcu, .dat Qcu]⟩
def Qb.l1.os : List Out := [⟨(.exit 2), [.mask [2, 4, 24, 25], .auto 1], ⟨us 2 ++ .ptr 2 [] :: us 1 ++ .ptr 3 [] :: us 19 ++ .dat Qcv :: .dat (.int .i64) :: us 20, [.pair (.dat Qcv) (.pair (.vsl 1) (.dat Qcs)), .vec (.int .u8), .dat Qcu, .dat Qcu]⟩⟩]
abbrev Qb.l0.σ : Type := (List Int) × Int × Qcq × (List Int) × (List Int) × (List Int) × Unit
abbrev Qb.l0.τ : Type := (Qcq × (List Int) × (List Int) × (List Int) × Unit)
def Qb.l0.r (k : Nat) {ρ : Type} (x : Qb.l0.σ) (kn : Qb.l0.σ → Option ρ) (ke : Qb.l0.τ → Option ρ) : Option ρ :=
 bif (decide (x.2.1 < (8 : Int))) then (bif (decide (((0 : Int) ≤ x.2.1) ∧ (x.2.1 < ((8 : Nat) : Int)))) then (let v5 : Int := (List.getD x.1 (Int.toNat x.2.1) (0 : Int))
 (Qb.l1 k k (x.2.1, (v5, (x.1, (x.2.1, ((0 : Int), ((x.2.2.1.1, ((), (x.2.2.1.2.2.1, ()))), (x.2.2.2.1, (x.2.2.2.2.1, (x.2.2.2.2.2.1, ())))))))))).bind fun t12 => let v13 : Int := (IntKind.wrap IntKind.i64 (t12.2.1 + (1 : Int)))
 kn (t12.1, (v13, ((t12.2.2.1.1, ((), (t12.2.2.1.2.2.1, ()))), (t12.2.2.2.1, (t12.2.2.2.2.1, (t12.2.2.2.2.2.1, ()))))))) else (none)) else (ke ((x.2.2.1.1, ((), (x.2.2.1.2.2.1, ()))), (x.2.2.2.1, (x.2.2.2.2.1, (x.2.2.2.2.2.1, ())))))
def Qb.l0 (k : Nat) : Nat → Qb.l0.σ → Option Qb.l0.τ := Q12 (Qb.l0.r k)
def Qb.l0.T : StT := ⟨us 2 ++ .ptr 2 [] :: us 1 ++ .ptr 3 [] :: us 19 ++ .dat Qcv :: .dat (.int .i64) :: us 20, [.pair (.dat Qcv) (.pair (.vsl 1) (.dat Qcs)), .vec (.int .u8), .dat Qcu, .dat Qcu]⟩
def Qb.l0.os : List Out := [⟨(.exit 0), [.mask [2, 4], .auto 1], ⟨us 2 ++ .ptr 2 [] :: us 1 ++ .ptr 3 [] :: us 41, [.pair (.dat Qcv) (.pair (.vsl 1) (.dat Qcs)), .vec (.int .u8), .dat Qcu, .dat Qcu]⟩⟩]
abbrev Qb.τ : Type := ((List Int) × Qcq × (List Int) × Unit)
def Qb.c (k : Nat) {ρ : Type} (b0 : Qcq) (b1 : (List Int)) (K : Qb.τ → Option ρ) : Option ρ :=
 (Q05 k (b0.1, ((), (b0.2.2.1, ()))) b1).bind fun t0 => let v1 : Int := t0.1.2.2.1
 (Q0H k v1).bind fun t2 => (Qe k t2.1 (t0.2.2.1.1, ((), (t0.2.2.1.2.2.1, ()))) t0.2.2.2.1).bind fun t3 => let v4 : (List Int) := t3.1.1
 (Qb.l0 k k (v4, ((0 : Int), ((t0.1.1, ((), (t0.1.2.2.1, ()))), (t0.2.1, ((List.replicate 32 (0 : Int)), ((List.replicate 32 (0 : Int)), ()))))))).bind fun t14 => let v15 : (List Int) := t14.2.2.2.1
 K (v15, ((t14.1.1, ((), (t14.1.2.2.1, ()))), (t14.2.1, ())))
def Qb (k : Nat) (b0 : Qcq) (b1 : (List Int)) : Option Qb.τ := Qb.c k b0 b1 some
def Qb.T : Q1a := ⟨[.ptr 0 []], [.pair (.dat Qcv) (.pair (.vsl 1) (.dat Qcs)), .vec (.int .u8)], 1⟩
def Qb.os : List Out := [⟨.ret, [.freeze (.slot 0), .auto 1], ⟨[.dat Qcu], [.pair (.dat Qcv) (.pair (.vsl 1) (.dat Qcs)), .vec (.int .u8)]⟩⟩]
def Qb.sem (k : Nat) : Qp := Q1g Qb.T Qb.os fun x => Qb k x.1 x.2.1
noncomputable def Qb.ctx (k : Nat) : Ctx := ⟨Tryz.prog, gam [(125, (Q05.sem k)), (126, (Q0H.sem k)), (97, (Qe.sem k))]⟩
theorem Qb.gok (k : Nat) : ∀ f, Qh Tryz.prog f ((Qb.ctx k).Γ f) := (Qf (Q05.sem_ok k) (Qf (Q0H.sem_ok k) (Qf (Qe.sem_ok k) QO)))
theorem Qb.l1.round (k : Nat) : Q0Q (Qb.ctx k) (Q08 (Func.code Tryz.f98) [1, 1, 1, 1, 1, 0, 1, 0, 0, 1, 1, 0, 0, 1, 1, 0, 0]) (.nil) Qb.l1.T [.mask [2, 4, 5, 6, 24, 25, 29], .auto 1] Qb.l1.os (Qb.l1.r k) := by
 intro ρ x kn ke; kernel_rfl
theorem Qb.l1.ok (k : Nat) : StOK 1 Tryz.prog (.loop (Q08 (Func.code Tryz.f98) [1, 1, 1, 1, 1, 0, 1, 0, 0, 1, 1, 0, 0, 1, 1, 0, 0])) (Qr Qb.l1.T Qb.l1.os (Qb.l1 k k)) :=
 Q0R (C := Qb.ctx k) (Qb.gok k) Tryz.mix Q0.nil (by kernel_rfl) (by kernel_rfl) (by kernel_rfl) (Qb.l1.round k) k
theorem Qb.l0.round (k : Nat) : Q0Q (Qb.ctx k) (Q08 (Func.code Tryz.f98) [1, 1, 1, 1, 1, 0, 1, 0, 0]) (.node [] none (.nil) (.node [] none (.nil) (.node [] none (.node [] none (.node [] none (.nil) (.node [] none (.nil) (.node [] none (.node [.mask [2, 4, 5, 6, 24, 25, 29], .auto 1] (some (Qr Qb.l1.T Qb.l1.os (Qb.l1 k k))) .nil .nil) (.nil)))) (.nil)) (.nil)))) Qb.l0.T [.mask [2, 4, 24, 25], .auto 1] Qb.l0.os (Qb.l0.r k) := by
 intro ρ x kn ke; kernel_rfl
theorem Qb.l0.ok (k : Nat) : StOK 1 Tryz.prog (.loop (Q08 (Func.code Tryz.f98) [1, 1, 1, 1, 1, 0, 1, 0, 0])) (Qr Qb.l0.T Qb.l0.os (Qb.l0 k k)) :=
 Q0R (C := Qb.ctx k) (Qb.gok k) Tryz.mix (Q0.seq Q0.nil (Q0.seq Q0.nil (Q0.seq (Q0.block (Q0.seq Q0.nil (Q0.seq Q0.nil (Q0.block (Q0.loop (by kernel_rfl) (Qb.l1.ok k)))))) Q0.nil))) (by kernel_rfl) (by kernel_rfl) (by kernel_rfl) (Qb.l0.round k) k
def Qb.ann (k : Nat) : Ann := .node [] none (.nil) (.node [] none (.nil) (.node [] none (.nil) (.node [] none (.nil) (.node [] none (.nil) (.node [] none (.node [] none (.nil) (.node [] none (.node [.mask [2, 4, 24, 25], .auto 1] (some (Qr Qb.l0.T Qb.l0.os (Qb.l0 k k))) .nil .nil) (.nil))) (.nil))))))
theorem Qb.body (k : Nat) : Q1m (Qb.ctx k) Tryz.f98 (Func.code Tryz.f98) (Qb.ann k) Qb.T Qb.os (fun x K => Qb.c k x.1 x.2.1 K) := by
 intro ρ x K; kernel_rfl
theorem Qb.sem_ok (k : Nat) : Qh Tryz.prog 98 (Qb.sem k) :=
 Q0S (C := Qb.ctx k) (Qb.gok k) Tryz.mix (c := Func.code Tryz.f98) (ann := Qb.ann k) (T := Qb.T) (os := Qb.os) (fun x K => Qb.c k x.1 x.2.1 K) Tryz.func98 (by kernel_rfl) (by kernel_rfl) (Q0.seq Q0.nil (Q0.seq Q0.nil (Q0.seq Q0.nil (Q0.seq Q0.nil (Q0.seq Q0.nil (Q0.seq (Q0.seq Q0.nil (Q0.block (Q0.loop (by kernel_rfl) (Qb.l0.ok k)))) Q0.nil)))))) (Qb.body k) (by kernel_rfl) (by kernel_rfl) (by kernel_rfl)
def Q17.c (k : Nat) {ρ : Type} (s : ByteArray) (K : (List Int) × Unit → Option ρ) : Option ρ :=
 (Q14 k ).bind fun t0 => (Qi k s (t0.1.1, ((), (t0.1.2.2.1, ())))).bind fun t1 => (Qb k (t1.1.1, ((), (t1.1.2.2.1, ()))) t1.2.1).bind fun t2 => K (t2.1, ())
def Q17 (k : Nat) (s : ByteArray) : Option Qcx := Q17.c k s some
def Q17.tin : List Ty := [.str]
def Q17.tout : List Ty := [Qcu]
def Q17.sem (k : Nat) : Qp := Qt Q17.tin Q17.tout fun x => Q17 k x.1
noncomputable def Q17.ctx (k : Nat) : Ctx := ⟨Tryz.prog, gam [(96, (Q14.sem k)), (97, (Qi.sem k)), (98, (Qb.sem k))]⟩
theorem Q17.gok (k : Nat) : ∀ f, Qh Tryz.prog f ((Q17.ctx k).Γ f) := (Qf (Q14.sem_ok k) (Qf (Qi.sem_ok k) (Qf (Qb.sem_ok k) QO)))
def Q17.ann (k : Nat) : Ann := .nil
theorem Q17.body (k : Nat) : Q0I (Q17.ctx k) Tryz.f66 (Func.code Tryz.f66) (Q17.ann k) Q17.tin Q17.tout (fun x K => Q17.c k x.1 K) := by
 intro ρ x K; kernel_rfl
theorem Q17.sem_ok (k : Nat) : Qh Tryz.prog 66 (Q17.sem k) :=
 Qv (C := Q17.ctx k) (Q17.gok k) Tryz.mix (c := Func.code Tryz.f66) (ann := Q17.ann k) (tin := Q17.tin) (tout := Q17.tout) (fun x K => Q17.c k x.1 K) Tryz.func66 (by kernel_rfl) (by kernel_rfl) Q0.nil (Q17.body k)
def Q0J.c (k : Nat) {ρ : Type} (s : ByteArray) (K : (List Int) × Unit → Option ρ) : Option ρ :=
 (Q17 k s).bind fun t0 => let v1 : ByteArray := (bytesOf (List.take 32 (List.drop 0 t0.1)))
 (Q17 k v1).bind fun t2 => K (t2.1, ())
def Q0J (k : Nat) (s : ByteArray) : Option Qcx := Q0J.c k s some
def Q0J.tin : List Ty := [.str]
def Q0J.tout : List Ty := [Qcu]
def Q0J.sem (k : Nat) : Qp := Qt Q0J.tin Q0J.tout fun x => Q0J k x.1
noncomputable def Q0J.ctx (k : Nat) : Ctx := ⟨Tryz.prog, gam [(66, (Q17.sem k))]⟩
theorem Q0J.gok (k : Nat) : ∀ f, Qh Tryz.prog f ((Q0J.ctx k).Γ f) := (Qf (Q17.sem_ok k) QO)
def Q0J.ann (k : Nat) : Ann := .nil
theorem Q0J.body (k : Nat) : Q0I (Q0J.ctx k) Tryz.f36 (Func.code Tryz.f36) (Q0J.ann k) Q0J.tin Q0J.tout (fun x K => Q0J.c k x.1 K) := by
 intro ρ x K; kernel_rfl
theorem Q0J.sem_ok (k : Nat) : Qh Tryz.prog 36 (Q0J.sem k) :=
 Qv (C := Q0J.ctx k) (Q0J.gok k) Tryz.mix (c := Func.code Tryz.f36) (ann := Q0J.ann k) (tin := Q0J.tin) (tout := Q0J.tout) (fun x K => Q0J.c k x.1 K) Tryz.func36 (by kernel_rfl) (by kernel_rfl) Q0.nil (Q0J.body k)
def Q0o.c (k : Nat) {ρ : Type} (h : Qcm) (K : (List Int) × Unit → Option ρ) : Option ρ :=
 (Q0N k (h.1, (h.2.1, (h.2.2.1, (h.2.2.2.1, (h.2.2.2.2.1, (h.2.2.2.2.2.1, ()))))))).bind fun t0 => (Q0J k t0.1).bind fun t1 => K (t1.1, ())
def Q0o (k : Nat) (h : Qcm) : Option Qcx := Q0o.c k h some
def Q0o.tin : List Ty := [Qcl]
def Q0o.tout : List Ty := [Qcu]
def Q0o.sem (k : Nat) : Qp := Qt Q0o.tin Q0o.tout fun x => Q0o k x.1
noncomputable def Q0o.ctx (k : Nat) : Ctx := ⟨Tryz.prog, gam [(44, (Q0N.sem k)), (36, (Q0J.sem k))]⟩
theorem Q0o.gok (k : Nat) : ∀ f, Qh Tryz.prog f ((Q0o.ctx k).Γ f) := (Qf (Q0N.sem_ok k) (Qf (Q0J.sem_ok k) QO))
def Q0o.ann (k : Nat) : Ann := .nil
theorem Q0o.body (k : Nat) : Q0I (Q0o.ctx k) Tryz.f20 (Func.code Tryz.f20) (Q0o.ann k) Q0o.tin Q0o.tout (fun x K => Q0o.c k x.1 K) := by
 intro ρ x K; kernel_rfl
theorem Q0o.sem_ok (k : Nat) : Qh Tryz.prog 20 (Q0o.sem k) :=
 Qv (C := Q0o.ctx k) (Q0o.gok k) Tryz.mix (c := Func.code Tryz.f20) (ann := Q0o.ann k) (tin := Q0o.tin) (tout := Q0o.tout) (fun x K => Q0o.c k x.1 K) Tryz.func20 (by kernel_rfl) (by kernel_rfl) Q0.nil (Q0o.body k)
end Go.Am
