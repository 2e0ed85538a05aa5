/- A part of a proof: a machine of abstract values that tells what functions of the program compute, and the plain facts on them. -/
import Derived.Test.YtpcjmcpghhmidaaAm6
import Derived.Test.YtpcjmcpghhmidaaRows
import Derived.KernelRfl
import Derived.Test.YtpcjmcpghhmidaaProg
import Derived.Test.YtpcjmcpghhmidaaAm8
set_option linter.unusedVariables false
set_option linter.unusedSimpArgs false
set_option linter.unnecessarySimpa false
set_option linter.unusedSectionVars false
namespace Go.Am
abbrev Qg3 : Ty := (.arr 32 (.int .u8))
abbrev Qg2 : Ty := (.arr 64 (.int .u8))
abbrev Qg1 : Ty := (.arr 8 (.int .u32))
abbrev Qg0 : Ty := (.arr 64 (.int .u32))
abbrev QfZ : Ty := (.pair (.int .u64) .unit)
abbrev QfY : Type := ((List Int) × (Unit × (Int × Unit)))
abbrev QfX : Type := ((List Int) × (List Int) × (List Int) × Unit)
abbrev QfW : Type := ( QfY  × (List Int) × Unit)
end Go.Am
namespace Go.Proofs.Ytpcjmcpghhmidaa
open Go.RowKit Go.Am
theorem Try.own : ownKnob Try.prog.godebug = none := by kernel_rfl
theorem Try.laidOut : laidOutB Try.prog = true := by kernel_rfl
end Go.Proofs.Ytpcjmcpghhmidaa
namespace Go.Am
open Go
theorem Qfz {p : Int → Prop} {l : List Int} (h : ∀ i, i < l.length → p (l.getD i 0)) : ∀ x ∈ l, p x := by
 intro x hx
 obtain ⟨i, hi, rfl⟩ := List.getElem_of_mem hx
 have := h i hi
 rw [List.getD_eq_getElem?_getD] at this
 simpa [hi] using this
theorem Qe6 : reachBytes = 140737488351232 := rfl
end Go.Am
namespace Go.Am
open Go Go.Proofs
theorem _root_.Go.Proofs.Try.mix : Try.prog.follows .mixedOrders = true := by kernel_rfl
end Go.Am
namespace Go.Am
open Go Go.Proofs Go.Shelf
set_option maxRecDepth 100000
def Bld.fs : List (Nat × Nat) := [(240, 124), (276, 132), (169, 108), (105, 75), (99, 104), (165, 105), (166, 106), (170, 107), (206, 123), (212, 103), (241, 125), (263, 121), (264, 122), (277, 133)]
def Bld.ts : List (Nat × Nat) := [(72, 173), (70, 171), (164, 202), (37, 103), (127, 190), (20, 20), (46, 164), (51, 36), (53, 22), (75, 176), (76, 177), (109, 169), (146, 191), (148, 109), (80, 124)]
def Bld.look : List (Nat × Nat) → Nat → Nat
 | [], n => n
 | (a, b) :: l, n => if n = a then b else Bld.look l n
def Bld.ren : Ren := ⟨Bld.look Bld.fs, Bld.look Bld.ts, fun n => n⟩
theorem Bld.lays240 : Lays.n240 Try.prog Bld.ren := by
 constructor <;> first | kernel_rfl | (intro w; kernel_rfl)
theorem Bld.lays169 : Lays.n169 Try.prog Bld.ren := by
 constructor <;> first | kernel_rfl | (intro w; kernel_rfl)
theorem Bld.lays105 : Lays.n105 Try.prog Bld.ren := by
 constructor <;> first | kernel_rfl | (intro w; kernel_rfl)
theorem Bld.x72 : Builder.X72 Try.prog Bld.ren where
 sizeBuilder := by kernel_rfl
 liesBuilder := by kernel_rfl
theorem Bld.extra : Builder.Extra Try.prog Bld.ren where
 sizeBuilder := by kernel_rfl
 liesBuilder := by kernel_rfl
 t5 := by kernel_rfl
 a5 := fun w => by kernel_rfl
 z5 := fun w => by kernel_rfl
 v5 := fun w => by kernel_rfl
 infoByte := by kernel_rfl
 cellsByte := by kernel_rfl
 sizeByte := by kernel_rfl
 neB5 := by decide
theorem Bld.copyCheck : Qz Try.prog 124 (Qdd 180 2) := Q9T Bld.lays240 Bld.x72 (by kernel_rfl) (by constructor <;> kernel_rfl)
theorem Bld.string : Qz Try.prog 108 QbX := QcG Bld.lays169 Bld.extra rfl (by constructor <;> kernel_rfl)
def strings_Repeat (k : Nat) (s : ByteArray) (c : Int) : Option (ByteArray × Unit) := repJ s c
def strings_Repeat.tin : List Ty := [.str, (.int .i64)]
def strings_Repeat.tout : List Ty := [.str]
def strings_Repeat.sem (k : Nat) : QK := QR strings_Repeat.tin strings_Repeat.tout fun x => strings_Repeat k x.1 x.2.1
theorem strings_Repeat.sem_ok (k : Nat) : Qz Try.prog 75 (strings_Repeat.sem k) :=
 QcK Bld.lays105 Bld.extra (by constructor <;> kernel_rfl)
end Go.Am
namespace Go.Am
open Go Go.Proofs Go.Shelf
set_option maxRecDepth 100000
def Cln.fs : List (Nat × Nat) := [(316, 102)]
def Cln.ts : List (Nat × Nat) := [(37, 103), (127, 190)]
def Cln.ren : Ren := ⟨Bld.look Cln.fs, Bld.look Cln.ts, fun n => n⟩
theorem Cln.lays316 : LaysM.n316 Try.prog Cln.ren := by
 constructor <;> first | kernel_rfl | (intro w; kernel_rfl) | (constructor <;> first | kernel_rfl | (intro w; kernel_rfl))
def stringslite_Clone (k : Nat) (s : ByteArray) : Option (ByteArray × Unit) := Q8i s
def stringslite_Clone.tin : List Ty := [.str]
def stringslite_Clone.tout : List Ty := [.str]
def stringslite_Clone.sem (k : Nat) : QK := QR stringslite_Clone.tin stringslite_Clone.tout fun x => stringslite_Clone k x.1
theorem stringslite_Clone.sem_ok (k : Nat) : Qz Try.prog 102 (stringslite_Clone.sem k) :=
 QdG Cln.lays316 (by constructor <;> kernel_rfl)
def Q0K (k : Nat) (a b : List Int) : Option (Int × Unit) := some (cmpB a b, ())
def Q0K.tin : List Ty := [(.sl (.int .u8)), (.sl (.int .u8))]
def Q0K.tout : List Ty := [(.int .i64)]
def Q0K.sem (k : Nat) : QK := QR Q0K.tin Q0K.tout fun x => Q0K k x.1 x.2.1
theorem Q0K.sem_ok (k : Nat) : Qz Try.prog 111 (Q0K.sem k) :=
 Qb7 Try.func111 (by kernel_rfl) (by kernel_rfl) (by kernel_rfl) (by kernel_rfl)
end Go.Am
namespace Go.Am
open Go Go.Proofs
set_option maxRecDepth 100000
def Q0c.c (k : Nat) {ρ : Type}  (K : (List Int) × Unit → Option ρ) : Option ρ :=
 let v0 : (List Int) := (List.set (List.set (List.set (List.set (List.set (List.set (List.set (List.set (List.replicate 8 (0 : Int)) 0 (1779033703 : Int)) 1 (3144134277 : Int)) 2 (1013904242 : Int)) 3 (2773480762 : Int)) 4 (1359893119 : Int)) 5 (2600822924 : Int)) 6 (528734635 : Int)) 7 (1541459225 : Int))
 K (v0, ())
def Q0c (k : Nat)  : Option ((List Int) × Unit) := Q0c.c k  some
def Q0c.tin : List Ty := []
def Q0c.tout : List Ty := [Qg1]
def Q0c.sem (k : Nat) : QK := QR Q0c.tin Q0c.tout fun x => Q0c k 
noncomputable def Q0c.ctx (k : Nat) : Ctx := ⟨Try.prog, gam []⟩
theorem Q0c.gok (k : Nat) : ∀ f, Qz Try.prog f ((Q0c.ctx k).Γ f) := Q03
def Q0c.ann (k : Nat) : Ann := .nil
theorem Q0c.body (k : Nat) : Q0t (Q0c.ctx k) Try.f128 (Func.code Try.f128) (Q0c.ann k) Q0c.tin Q0c.tout (fun x K => Q0c.c k  K) := by
 intro ρ x K; kernel_rfl
theorem Q0c.sem_ok (k : Nat) : Qz Try.prog 128 (Q0c.sem k) :=
 QT (C := Q0c.ctx k) (Q0c.gok k) Try.mix (c := Func.code Try.f128) (ann := Q0c.ann k) (tin := Q0c.tin) (tout := Q0c.tout) (fun x K => Q0c.c k  K) Try.func128 (by kernel_rfl) (by kernel_rfl) Q8.nil (Q0c.body k)
abbrev Q0m.τ : Type := (QfY × Unit)
def Q0m.c (k : Nat) {ρ : Type}  (K : Q0m.τ → Option ρ) : Option ρ :=
 (Q0c k ).bind fun t0 => K ((t0.1, ((), ((0 : Int), ()))), ())
def Q0m (k : Nat)  : Option Q0m.τ := Q0m.c k  some
def Q0m.T : Q0V := ⟨[], [], 0⟩
def Q0m.os : List Out := [⟨.ret, [.auto 0], ⟨[.ptr 0 []], [.pair (.dat Qg1) (.pair (.nils) (.dat QfZ))]⟩⟩]
def Q0m.sem (k : Nat) : QK := Q1j Q0m.T Q0m.os fun x => Q0m k 
noncomputable def Q0m.ctx (k : Nat) : Ctx := ⟨Try.prog, gam [(128, (Q0c.sem k))]⟩
theorem Q0m.gok (k : Nat) : ∀ f, Qz Try.prog f ((Q0m.ctx k).Γ f) := (QA (Q0c.sem_ok k) Q03)
def Q0m.ann (k : Nat) : Ann := .nil
theorem Q0m.body (k : Nat) : Q1E (Q0m.ctx k) Try.f117 (Func.code Try.f117) (Q0m.ann k) Q0m.T Q0m.os (fun x K => Q0m.c k  K) := by
 intro ρ x K; kernel_rfl
theorem Q0m.sem_ok (k : Nat) : Qz Try.prog 117 (Q0m.sem k) :=
 Q0E (C := Q0m.ctx k) (Q0m.gok k) Try.mix (c := Func.code Try.f117) (ann := Q0m.ann k) (T := Q0m.T) (os := Q0m.os) (fun x K => Q0m.c k  K) Try.func117 (by kernel_rfl) (by kernel_rfl) Q8.nil (Q0m.body k) (by kernel_rfl) (by kernel_rfl) (by kernel_rfl)
def Qo.c (k : Nat) {ρ : Type} (x_0 : Int) (k_1 : Int) (K : Int × Unit → Option ρ) : Option ρ :=
 let v0 : Int := (Qw BinOp.and IntKind.u64 (IntKind.wrap IntKind.u64 k_1) (31 : Int))
 bif (decide ((0 : Int) ≤ v0)) then (let v1 : Int := (IntKind.wrap IntKind.u64 ((32 : Int) - v0))
 bif (decide ((0 : Int) ≤ v1)) then (let v2 : Int := (Qw BinOp.or IntKind.u32 (Q1H IntKind.u32 x_0 v0) (Q10 IntKind.u32 x_0 v1))
 K (v2, ())) else (none)) else (none)
def Qo (k : Nat) (x_0 : Int) (k_1 : Int) : Option (Int × Unit) := Qo.c k x_0 k_1 some
def Qo.tin : List Ty := [(.int .u32), (.int .i64)]
def Qo.tout : List Ty := [(.int .u32)]
def Qo.sem (k : Nat) : QK := QR Qo.tin Qo.tout fun x => Qo k x.1 x.2.1
noncomputable def Qo.ctx (k : Nat) : Ctx := ⟨Try.prog, gam []⟩
theorem Qo.gok (k : Nat) : ∀ f, Qz Try.prog f ((Qo.ctx k).Γ f) := Q03
def Qo.ann (k : Nat) : Ann := .nil
theorem Qo.body (k : Nat) : Q0t (Qo.ctx k) Try.f137 (Func.code Try.f137) (Qo.ann k) Qo.tin Qo.tout (fun x K => Qo.c k x.1 x.2.1 K) := by
 intro ρ x K; kernel_rfl
theorem Qo.sem_ok (k : Nat) : Qz Try.prog 137 (Qo.sem k) :=
 QT (C := Qo.ctx k) (Qo.gok k) Try.mix (c := Func.code Try.f137) (ann := Qo.ann k) (tin := Qo.tin) (tout := Qo.tout) (fun x K => Qo.c k x.1 x.2.1 K) Try.func137 (by kernel_rfl) (by kernel_rfl) Q8.nil (Qo.body k)
def QU.c (k : Nat) {ρ : Type} (x_0 : Int) (n : Int) (K : Int × Unit → Option ρ) : Option ρ :=
 let v0 : Int := (IntKind.wrap IntKind.i64 ((0 : Int) - n))
 (Qo k x_0 v0).bind fun t1 => K (t1.1, ())
def QU (k : Nat) (x_0 : Int) (n : Int) : Option (Int × Unit) := QU.c k x_0 n some
def QU.tin : List Ty := [(.int .u32), (.int .i64)]
def QU.tout : List Ty := [(.int .u32)]
def QU.sem (k : Nat) : QK := QR QU.tin QU.tout fun x => QU k x.1 x.2.1
noncomputable def QU.ctx (k : Nat) : Ctx := ⟨Try.prog, gam [(137, (Qo.sem k))]⟩
theorem QU.gok (k : Nat) : ∀ f, Qz Try.prog f ((QU.ctx k).Γ f) := (QA (Qo.sem_ok k) Q03)
def QU.ann (k : Nat) : Ann := .nil
theorem QU.body (k : Nat) : Q0t (QU.ctx k) Try.f136 (Func.code Try.f136) (QU.ann k) QU.tin QU.tout (fun x K => QU.c k x.1 x.2.1 K) := by
 intro ρ x K; kernel_rfl
theorem QU.sem_ok (k : Nat) : Qz Try.prog 136 (QU.sem k) :=
 QT (C := QU.ctx k) (QU.gok k) Try.mix (c := Func.code Try.f136) (ann := QU.ann k) (tin := QU.tin) (tout := QU.tout) (fun x K => QU.c k x.1 x.2.1 K) Try.func136 (by kernel_rfl) (by kernel_rfl) Q8.nil (QU.body k)
abbrev Qf.l1.σ : Type := Int × Int × (Nat × Nat) × Int × Int × (List Int) × (List Int) × (List Int) × Unit
abbrev Qf.l1.τ : Type := (Int × (List Int) × (List Int) × (List Int) × Unit)
def Qf.l1.r (k : Nat) {ρ : Type} (x : Qf.l1.σ) (kn : Qf.l1.σ → Option ρ) (ke : Qf.l1.τ → Option ρ) : Option ρ :=
 bif (decide (x.2.2.2.2.1 < x.2.2.2.1)) then (bif (decide (((0 : Int) ≤ x.2.2.2.2.1) ∧ (x.2.2.2.2.1 < ((x.2.2.1.2 : Nat) : Int)))) then (let v4 : Int := (List.getD x.2.2.2.2.2.1 (x.2.2.1.1 + (Int.toNat x.2.2.2.2.1)) (0 : Int))
 bif (decide (((0 : Int) ≤ x.1) ∧ (x.1 < ((64 : Nat) : Int)))) then (let v5 : Int := (List.getD x.2.2.2.2.2.2.2.1 (Int.toNat x.1) (0 : Int))
 let v6 : Int := (Q1H IntKind.u32 v5 (8 : Int))
 bif (decide (((0 : Int) ≤ x.1) ∧ (x.1 < ((64 : Nat) : Int)))) then (let v7 : Int := (IntKind.wrap IntKind.i64 (x.2.2.2.2.1 + (1 : Int)))
 kn (x.1, (x.2.1, ((x.2.2.1.1, x.2.2.1.2), (x.2.2.2.1, (v7, (x.2.2.2.2.2.1, (x.2.2.2.2.2.2.1, ((List.set x.2.2.2.2.2.2.2.1 (Int.toNat x.1) (Qw BinOp.or IntKind.u32 v6 (IntKind.wrap IntKind.u32 v4))), ()))))))))) else (none)) else (none)) else (none)) else (ke (x.2.1, (x.2.2.2.2.2.1, (x.2.2.2.2.2.2.1, (x.2.2.2.2.2.2.2.1, ())))))
def Qf.l1 (k : Nat) : Nat → Qf.l1.σ → Option Qf.l1.τ := Q0o (Qf.l1.r k)
def Qf.l1.T : StT := ⟨.ptr 0 [] :: us 1 ++ .ptr 1 [] :: .ptr 2 [] :: .dat (.int .i64) :: us 7 ++ .dat (.int .i64) :: us 9 ++ .slr 0 [] :: .dat (.int .i64) :: .dat (.int .i64) :: us 58, [.dat Qg2, .dat Qg0, .dat Qg0]⟩
def Qf.l1.os : List Out := [⟨(.exit 2), [.mask [0, 2, 3, 12], .auto 1], ⟨.ptr 0 [] :: us 1 ++ .ptr 1 [] :: .ptr 2 [] :: us 8 ++ .dat (.int .i64) :: us 70, [.dat Qg2, .dat Qg0, .dat Qg0]⟩⟩]
abbrev Qf.l0.σ : Type := Int × (List Int) × (List Int) × (List Int) × Unit
abbrev Qf.l0.τ : Type := QfX 
def Qf.l0.r (k : Nat) {ρ : Type} (x : Qf.l0.σ) (kn : Qf.l0.σ → Option ρ) (ke : Qf.l0.τ → Option ρ) : Option ρ :=
 bif (decide (x.1 < (16 : Int))) then (let v0 : Int := (IntKind.wrap IntKind.i64 ((4 : Int) * x.1))
 let v1 : Int := (IntKind.wrap IntKind.i64 (x.1 + (1 : Int)))
 let v2 : Int := (IntKind.wrap IntKind.i64 ((4 : Int) * v1))
 bif (decide (((0 : Int) ≤ v0) ∧ ((v0 ≤ v2) ∧ (v2 ≤ ((64 : Nat) : Int))))) then (let v3 : Int := (((Int.toNat (v2 - v0)) : Nat) : Int)
 (Qf.l1 k k (x.1, (x.1, (((Int.toNat v0), (Int.toNat (v2 - v0))), (v3, ((0 : Int), (x.2.1, (x.2.2.1, (x.2.2.2.1, ()))))))))).bind fun t8 => let v9 : Int := (IntKind.wrap IntKind.i64 (t8.1 + (1 : Int)))
 kn (v9, (t8.2.1, (t8.2.2.1, (t8.2.2.2.1, ()))))) else (none)) else (ke (x.2.1, (x.2.2.1, (x.2.2.2.1, ()))))
def Qf.l0 (k : Nat) : Nat → Qf.l0.σ → Option Qf.l0.τ := Q0o (Qf.l0.r k)
def Qf.l0.T : StT := ⟨.ptr 0 [] :: us 1 ++ .ptr 1 [] :: .ptr 2 [] :: us 8 ++ .dat (.int .i64) :: us 70, [.dat Qg2, .dat Qg0, .dat Qg0]⟩
def Qf.l0.os : List Out := [⟨(.exit 0), [.mask [2, 3], .auto 1], ⟨us 2 ++ .ptr 1 [] :: .ptr 2 [] :: us 79, [.dat Qg2, .dat Qg0, .dat Qg0]⟩⟩]
abbrev Qf.l2.σ : Type := Int × (List Int) × (List Int) × (List Int) × Unit
abbrev Qf.l2.τ : Type := QfX 
def Qf.l2.r (k : Nat) {ρ : Type} (x : Qf.l2.σ) (kn : Qf.l2.σ → Option ρ) (ke : Qf.l2.τ → Option ρ) : Option ρ :=
 bif (decide (x.1 < (64 : Int))) then (let v11 : Int := (IntKind.wrap IntKind.i64 (x.1 - (2 : Int)))
 bif (decide (((0 : Int) ≤ v11) ∧ (v11 < ((64 : Nat) : Int)))) then (let v12 : Int := (List.getD x.2.2.2.1 (Int.toNat v11) (0 : Int))
 let v13 : Int := (IntKind.wrap IntKind.i64 (x.1 - (15 : Int)))
 bif (decide (((0 : Int) ≤ v13) ∧ (v13 < ((64 : Nat) : Int)))) then (let v14 : Int := (List.getD x.2.2.2.1 (Int.toNat v13) (0 : Int))
 (QU k v12 (17 : Int)).bind fun t15 => (QU k v12 (19 : Int)).bind fun t16 => let v17 : Int := (Qw BinOp.xor IntKind.u32 t15.1 t16.1)
 let v18 : Int := (Q10 IntKind.u32 v12 (10 : Int))
 (QU k v14 (7 : Int)).bind fun t19 => (QU k v14 (18 : Int)).bind fun t20 => let v21 : Int := (Qw BinOp.xor IntKind.u32 t19.1 t20.1)
 let v22 : Int := (Q10 IntKind.u32 v14 (3 : Int))
 let v23 : Int := (IntKind.wrap IntKind.i64 (x.1 - (7 : Int)))
 bif (decide (((0 : Int) ≤ v23) ∧ (v23 < ((64 : Nat) : Int)))) then (let v24 : Int := (List.getD x.2.2.2.1 (Int.toNat v23) (0 : Int))
 let v25 : Int := (IntKind.wrap IntKind.u32 ((Qw BinOp.xor IntKind.u32 v17 v18) + v24))
 let v26 : Int := (IntKind.wrap IntKind.u32 (v25 + (Qw BinOp.xor IntKind.u32 v21 v22)))
 let v27 : Int := (IntKind.wrap IntKind.i64 (x.1 - (16 : Int)))
 bif (decide (((0 : Int) ≤ v27) ∧ (v27 < ((64 : Nat) : Int)))) then (let v28 : Int := (List.getD x.2.2.2.1 (Int.toNat v27) (0 : Int))
 let v29 : Int := (IntKind.wrap IntKind.u32 (v26 + v28))
 bif (decide (((0 : Int) ≤ x.1) ∧ (x.1 < ((64 : Nat) : Int)))) then (let v30 : Int := (IntKind.wrap IntKind.i64 (x.1 + (1 : Int)))
 kn (v30, (x.2.1, (x.2.2.1, ((List.set x.2.2.2.1 (Int.toNat x.1) v29), ()))))) else (none)) else (none)) else (none)) else (none)) else (none)) else (ke (x.2.1, (x.2.2.1, (x.2.2.2.1, ()))))
def Qf.l2 (k : Nat) : Nat → Qf.l2.σ → Option Qf.l2.τ := Q0o (Qf.l2.r k)
def Qf.l2.T : StT := ⟨us 2 ++ .ptr 1 [] :: .ptr 2 [] :: us 3 ++ .dat (.int .i64) :: us 75, [.dat Qg2, .dat Qg0, .dat Qg0]⟩
def Qf.l2.os : List Out := [⟨(.exit 4), [.mask [2, 3], .auto 1], ⟨us 2 ++ .ptr 1 [] :: .ptr 2 [] :: us 79, [.dat Qg2, .dat Qg0, .dat Qg0]⟩⟩]
abbrev Qf.τ : Type := ((List Int) × (List Int) × Unit)
def Qf.c (k : Nat) {ρ : Type} (b0 : (List Int)) (K : Qf.τ → Option ρ) : Option ρ :=
 (Qf.l0 k k ((0 : Int), (b0, ((List.replicate 64 (0 : Int)), ((List.replicate 64 (0 : Int)), ()))))).bind fun t10 => (Qf.l2 k k ((16 : Int), (t10.1, (t10.2.1, (t10.2.2.1, ()))))).bind fun t31 => let v32 : (List Int) := t31.2.2.1
 K (v32, (t31.1, ()))
def Qf (k : Nat) (b0 : (List Int)) : Option Qf.τ := Qf.c k b0 some
def Qf.T : Q0V := ⟨[.ptr 0 []], [.dat Qg2], 1⟩
def Qf.os : List Out := [⟨.ret, [.freeze (.slot 0), .auto 1], ⟨[.dat Qg0], [.dat Qg2]⟩⟩]
def Qf.sem (k : Nat) : QK := Q1j Qf.T Qf.os fun x => Qf k x.1
noncomputable def Qf.ctx (k : Nat) : Ctx := ⟨Try.prog, gam [(136, (QU.sem k))]⟩
theorem Qf.gok (k : Nat) : ∀ f, Qz Try.prog f ((Qf.ctx k).Γ f) := (QA (QU.sem_ok k) Q03)
theorem Qf.l1.round (k : Nat) : Q0s (Qf.ctx k) (QZ (Func.code Try.f134) [1, 1, 0, 1, 0, 0, 1, 1, 0, 0, 1, 1, 0, 0]) (.nil) Qf.l1.T [.mask [0, 2, 3, 4, 12, 22, 23, 24], .auto 1] Qf.l1.os (Qf.l1.r k) := by
 intro ρ x kn ke; kernel_rfl
theorem Qf.l1.ok (k : Nat) : StOK 1 Try.prog (.loop (QZ (Func.code Try.f134) [1, 1, 0, 1, 0, 0, 1, 1, 0, 0, 1, 1, 0, 0])) (QE Qf.l1.T Qf.l1.os (Qf.l1 k k)) :=
 Q0u (C := Qf.ctx k) (Qf.gok k) Try.mix Q8.nil (by kernel_rfl) (by kernel_rfl) (by kernel_rfl) (Qf.l1.round k) k
theorem Qf.l2.round (k : Nat) : Q0s (Qf.ctx k) (QZ (Func.code Try.f134) [1, 1, 1, 0, 1, 0, 0]) (.nil) Qf.l2.T [.mask [2, 3, 7], .auto 1] Qf.l2.os (Qf.l2.r k) := by
 intro ρ x kn ke; kernel_rfl
theorem Qf.l2.ok (k : Nat) : StOK 1 Try.prog (.loop (QZ (Func.code Try.f134) [1, 1, 1, 0, 1, 0, 0])) (QE Qf.l2.T Qf.l2.os (Qf.l2 k k)) :=
 Q0u (C := Qf.ctx k) (Qf.gok k) Try.mix Q8.nil (by kernel_rfl) (by kernel_rfl) (by kernel_rfl) (Qf.l2.round k) k
theorem Qf.l0.round (k : Nat) : Q0s (Qf.ctx k) (QZ (Func.code Try.f134) [1, 1, 0, 1, 0, 0]) (.node [] none (.nil) (.node [] none (.nil) (.node [] none (.node [] none (.node [] none (.nil) (.node [] none (.nil) (.node [] none (.node [.mask [0, 2, 3, 4, 12, 22, 23, 24], .auto 1] (some (QE Qf.l1.T Qf.l1.os (Qf.l1 k k))) .nil .nil) (.nil)))) (.nil)) (.nil)))) Qf.l0.T [.mask [0, 2, 3, 12], .auto 1] Qf.l0.os (Qf.l0.r k) := by
 intro ρ x kn ke; kernel_rfl
theorem Qf.l0.ok (k : Nat) : StOK 1 Try.prog (.loop (QZ (Func.code Try.f134) [1, 1, 0, 1, 0, 0])) (QE Qf.l0.T Qf.l0.os (Qf.l0 k k)) :=
 Q0u (C := Qf.ctx k) (Qf.gok k) Try.mix (Q8.seq Q8.nil (Q8.seq Q8.nil (Q8.seq (Q8.block (Q8.seq Q8.nil (Q8.seq Q8.nil (Q8.block (Q8.loop (by kernel_rfl) (Qf.l1.ok k)))))) Q8.nil))) (by kernel_rfl) (by kernel_rfl) (by kernel_rfl) (Qf.l0.round k) k
def Qf.ann (k : Nat) : Ann := .node [] none (.nil) (.node [] none (.nil) (.node [] none (.node [] none (.nil) (.node [] none (.node [.mask [0, 2, 3, 12], .auto 1] (some (QE Qf.l0.T Qf.l0.os (Qf.l0 k k))) .nil .nil) (.nil))) (.node [] none (.node [] none (.nil) (.node [] none (.node [.mask [2, 3, 7], .auto 1] (some (QE Qf.l2.T Qf.l2.os (Qf.l2 k k))) .nil .nil) (.nil))) (.nil))))
theorem Qf.body (k : Nat) : Q1E (Qf.ctx k) Try.f134 (Func.code Try.f134) (Qf.ann k) Qf.T Qf.os (fun x K => Qf.c k x.1 K) := by
 intro ρ x K; kernel_rfl
theorem Qf.sem_ok (k : Nat) : Qz Try.prog 134 (Qf.sem k) :=
 Q0E (C := Qf.ctx k) (Qf.gok k) Try.mix (c := Func.code Try.f134) (ann := Qf.ann k) (T := Qf.T) (os := Qf.os) (fun x K => Qf.c k x.1 K) Try.func134 (by kernel_rfl) (by kernel_rfl) (Q8.seq Q8.nil (Q8.seq Q8.nil (Q8.seq (Q8.seq Q8.nil (Q8.block (Q8.loop (by kernel_rfl) (Qf.l0.ok k)))) (Q8.seq (Q8.seq Q8.nil (Q8.block (Q8.loop (by kernel_rfl) (Qf.l2.ok k)))) Q8.nil)))) (Qf.body k) (by kernel_rfl) (by kernel_rfl) (by kernel_rfl)
abbrev QP.τ : Type := ((List Int) × Unit)
def QP.c (k : Nat) {ρ : Type}  (K : QP.τ → Option ρ) : Option ρ :=
 let v0 : (List Int) := (List.set (List.set (List.set (List.set (List.set (List.set (List.set (List.set (List.set (List.set (List.set (List.set (List.set (List.set (List.set (List.set (List.set (List.set (List.set (List.set (List.set (List.set (List.set (List.set (List.set (List.set (List.set (List.set (List.set (List.set (List.set (List.set (List.set (List.set (List.set (List.set (List.set (List.set (List.set (List.set (List.set (List.set (List.set (List.set (List.set (List.set (List.set (List.set (List.set (List.set (List.set (List.set (List.set (List.set (List.set (List.set (List.set (List.set (List.set (List.set (List.set (List.set (List.set (List.set (List.replicate 64 (0 : Int)) 0 (1116352408 : Int)) 1 (1899447441 : Int)) 2 (3049323471 : Int)) 3 (3921009573 : Int)) 4 (961987163 : Int)) 5 (1508970993 : Int)) 6 (2453635748 : Int)) 7 (2870763221 : Int)) 8 (3624381080 : Int)) 9 (310598401 : Int)) 10 (607225278 : Int)) 11 (1426881987 : Int)) 12 (1925078388 : Int)) 13 (2162078206 : Int)) 14 (2614888103 : Int)) 15 (3248222580 : Int)) 16 (3835390401 : Int)) 17 (4022224774 : Int)) 18 (264347078 : Int)) 19 (604807628 : Int)) 20 (770255983 : Int)) 21 (1249150122 : Int)) 22 (1555081692 : Int)) 23 (1996064986 : Int)) 24 (2554220882 : Int)) 25 (2821834349 : Int)) 26 (2952996808 : Int)) 27 (3210313671 : Int)) 28 (3336571891 : Int)) 29 (3584528711 : Int)) 30 (113926993 : Int)) 31 (338241895 : Int)) 32 (666307205 : Int)) 33 (773529912 : Int)) 34 (1294757372 : Int)) 35 (1396182291 : Int)) 36 (1695183700 : Int)) 37 (1986661051 : Int)) 38 (2177026350 : Int)) 39 (2456956037 : Int)) 40 (2730485921 : Int)) 41 (2820302411 : Int)) 42 (3259730800 : Int)) 43 (3345764771 : Int)) 44 (3516065817 : Int)) 45 (3600352804 : Int)) 46 (4094571909 : Int)) 47 (275423344 : Int)) 48 (430227734 : Int)) 49 (506948616 : Int)) 50 (659060556 : Int)) 51 (883997877 : Int)) 52 (958139571 : Int)) 53 (1322822218 : Int)) 54 (1537002063 : Int)) 55 (1747873779 : Int)) 56 (1955562222 : Int)) 57 (2024104815 : Int)) 58 (2227730452 : Int)) 59 (2361852424 : Int)) 60 (2428436474 : Int)) 61 (2756734187 : Int)) 62 (3204031479 : Int)) 63 (3329325298 : Int))
 K (v0, ())
def QP (k : Nat)  : Option QP.τ := QP.c k  some
def QP.T : Q0V := ⟨[], [], 0⟩
def QP.os : List Out := [⟨.ret, [.auto 0], ⟨[.ptr 0 []], [.dat Qg0]⟩⟩]
def QP.sem (k : Nat) : QK := Q1j QP.T QP.os fun x => QP k 
noncomputable def QP.ctx (k : Nat) : Ctx := ⟨Try.prog, gam []⟩
theorem QP.gok (k : Nat) : ∀ f, Qz Try.prog f ((QP.ctx k).Γ f) := Q03
def QP.ann (k : Nat) : Ann := .nil
theorem QP.body (k : Nat) : Q1E (QP.ctx k) Try.f135 (Func.code Try.f135) (QP.ann k) QP.T QP.os (fun x K => QP.c k  K) := by
 intro ρ x K; kernel_rfl
theorem QP.sem_ok (k : Nat) : Qz Try.prog 135 (QP.sem k) :=
 Q0E (C := QP.ctx k) (QP.gok k) Try.mix (c := Func.code Try.f135) (ann := QP.ann k) (T := QP.T) (os := QP.os) (fun x K => QP.c k  K) Try.func135 (by kernel_rfl) (by kernel_rfl) Q8.nil (QP.body k) (by kernel_rfl) (by kernel_rfl) (by kernel_rfl)
abbrev Qs.l0.σ : Type := Int × (List Int) × (List Int) × (List Int) × (List Int) × (List Int) × Unit
abbrev Qs.l0.τ : Type := QfX 
def Qs.l0.r (k : Nat) {ρ : Type} (x : Qs.l0.σ) (kn : Qs.l0.σ → Option ρ) (ke : Qs.l0.τ → Option ρ) : Option ρ :=
 bif (decide (x.1 < (64 : Int))) then (let v2 : Int := (List.getD x.2.2.2.2.2.1 0 (0 : Int))
 let v3 : Int := (List.getD x.2.2.2.2.2.1 4 (0 : Int))
 (QU k v3 (6 : Int)).bind fun t4 => (QU k v3 (11 : Int)).bind fun t5 => let v6 : Int := (Qw BinOp.xor IntKind.u32 t4.1 t5.1)
 (QU k v3 (25 : Int)).bind fun t7 => let v8 : Int := (Qw BinOp.xor IntKind.u32 v6 t7.1)
 (QU k v2 (2 : Int)).bind fun t9 => (QU k v2 (13 : Int)).bind fun t10 => let v11 : Int := (Qw BinOp.xor IntKind.u32 t9.1 t10.1)
 (QU k v2 (22 : Int)).bind fun t12 => let v13 : Int := (Qw BinOp.xor IntKind.u32 v11 t12.1)
 let v14 : Int := (List.getD x.2.2.2.2.2.1 5 (0 : Int))
 let v15 : Int := (List.getD x.2.2.2.2.2.1 6 (0 : Int))
 let v16 : Int := (Qw BinOp.xor IntKind.u32 (Qw BinOp.and IntKind.u32 v3 v14) (Qw BinOp.and IntKind.u32 (notI IntKind.u32 v3) v15))
 let v17 : Int := (List.getD x.2.2.2.2.2.1 1 (0 : Int))
 let v18 : Int := (List.getD x.2.2.2.2.2.1 2 (0 : Int))
 let v19 : Int := (Qw BinOp.xor IntKind.u32 (Qw BinOp.and IntKind.u32 v2 v17) (Qw BinOp.and IntKind.u32 v2 v18))
 let v20 : Int := (List.getD x.2.2.2.2.2.1 1 (0 : Int))
 let v21 : Int := (List.getD x.2.2.2.2.2.1 2 (0 : Int))
 let v22 : Int := (Qw BinOp.xor IntKind.u32 v19 (Qw BinOp.and IntKind.u32 v20 v21))
 let v23 : Int := (List.getD x.2.2.2.2.2.1 7 (0 : Int))
 let v24 : Int := (IntKind.wrap IntKind.u32 (v23 + v8))
 let v25 : Int := (IntKind.wrap IntKind.u32 (v24 + v16))
 bif (decide (((0 : Int) ≤ x.1) ∧ (x.1 < ((64 : Nat) : Int)))) then (let v26 : Int := (List.getD x.2.2.2.2.1 (Int.toNat x.1) (0 : Int))
 let v27 : Int := (IntKind.wrap IntKind.u32 (v25 + v26))
 bif (decide (((0 : Int) ≤ x.1) ∧ (x.1 < ((64 : Nat) : Int)))) then (let v28 : Int := (List.getD x.2.2.2.1 (Int.toNat x.1) (0 : Int))
 let v29 : Int := (IntKind.wrap IntKind.u32 (v27 + v28))
 let v30 : Int := (IntKind.wrap IntKind.u32 (v29 + v13))
 let v31 : Int := (IntKind.wrap IntKind.u32 (v30 + v22))
 let v32 : Int := (List.getD x.2.2.2.2.2.1 0 (0 : Int))
 let v33 : Int := (List.getD x.2.2.2.2.2.1 1 (0 : Int))
 let v34 : Int := (List.getD x.2.2.2.2.2.1 2 (0 : Int))
 let v35 : Int := (List.getD x.2.2.2.2.2.1 3 (0 : Int))
 let v36 : Int := (IntKind.wrap IntKind.u32 (v35 + v29))
 let v37 : Int := (List.getD x.2.2.2.2.2.1 4 (0 : Int))
 let v38 : Int := (List.getD x.2.2.2.2.2.1 5 (0 : Int))
 let v39 : Int := (List.getD x.2.2.2.2.2.1 6 (0 : Int))
 let v40 : (List Int) := (List.set (List.set (List.set (List.set (List.set (List.set (List.set (List.set (List.replicate 8 (0 : Int)) 0 v31) 1 v32) 2 v33) 3 v34) 4 v36) 5 v37) 6 v38) 7 v39)
 let v41 : Int := (IntKind.wrap IntKind.i64 (x.1 + (1 : Int)))
 kn (v41, (x.2.1, (x.2.2.1, (x.2.2.2.1, (x.2.2.2.2.1, (v40, ()))))))) else (none)) else (none)) else (ke (x.2.1, (x.2.2.1, (x.2.2.2.2.2.1, ()))))
def Qs.l0 (k : Nat) : Nat → Qs.l0.σ → Option Qs.l0.τ := Q0o (Qs.l0.r k)
def Qs.l0.T : StT := ⟨us 2 ++ .ptr 0 [] :: us 1 ++ .ptr 1 [] :: .ptr 2 [] :: .ptr 3 [] :: .ptr 4 [] :: us 12 ++ .dat (.int .i64) :: us 99, [.dat Qg1, .dat Qg1, .dat Qg0, .dat Qg0, .dat Qg1]⟩
def Qs.l0.os : List Out := [⟨(.exit 0), [.mask [2, 4, 7], .auto 0], ⟨us 2 ++ .ptr 0 [] :: us 1 ++ .ptr 1 [] :: us 2 ++ .ptr 2 [] :: us 112, [.dat Qg1, .dat Qg1, .dat Qg1]⟩⟩]
abbrev Qs.l1.σ : Type := Int × (List Int) × (List Int) × (List Int) × Unit
abbrev Qs.l1.τ : Type := ((List Int) × (List Int) × Unit)
def Qs.l1.r (k : Nat) {ρ : Type} (x : Qs.l1.σ) (kn : Qs.l1.σ → Option ρ) (ke : Qs.l1.τ → Option ρ) : Option ρ :=
 bif (decide (x.1 < (8 : Int))) then (bif (decide (((0 : Int) ≤ x.1) ∧ (x.1 < ((8 : Nat) : Int)))) then (let v43 : Int := (List.getD x.2.2.2.1 (Int.toNat x.1) (0 : Int))
 bif (decide (((0 : Int) ≤ x.1) ∧ (x.1 < ((8 : Nat) : Int)))) then (let v44 : Int := (List.getD x.2.1 (Int.toNat x.1) (0 : Int))
 let v45 : Int := (IntKind.wrap IntKind.u32 (v43 + v44))
 bif (decide (((0 : Int) ≤ x.1) ∧ (x.1 < ((8 : Nat) : Int)))) then (let v46 : Int := (IntKind.wrap IntKind.i64 (x.1 + (1 : Int)))
 kn (v46, (x.2.1, (x.2.2.1, ((List.set x.2.2.2.1 (Int.toNat x.1) v45), ()))))) else (none)) else (none)) else (none)) else (ke (x.2.2.1, (x.2.2.2.1, ())))
def Qs.l1 (k : Nat) : Nat → Qs.l1.σ → Option Qs.l1.τ := Q0o (Qs.l1.r k)
def Qs.l1.T : StT := ⟨us 2 ++ .ptr 0 [] :: us 1 ++ .ptr 1 [] :: us 2 ++ .ptr 2 [] :: us 99 ++ .dat (.int .i64) :: us 12, [.dat Qg1, .dat Qg1, .dat Qg1]⟩
def Qs.l1.os : List Out := [⟨(.exit 2), [.mask [4, 7], .auto 0], ⟨us 4 ++ .ptr 0 [] :: us 2 ++ .ptr 1 [] :: us 112, [.dat Qg1, .dat Qg1]⟩⟩]
def Qs.c (k : Nat) {ρ : Type} (x_0 : (List Int)) (block : (List Int)) (K : (List Int) × Unit → Option ρ) : Option ρ :=
 (Qf k block).bind fun t0 => (QP k ).bind fun t1 => (Qs.l0 k k ((0 : Int), (x_0, ((List.replicate 8 (0 : Int)), (t0.1, (t1.1, (x_0, ()))))))).bind fun t42 => (Qs.l1 k k ((0 : Int), (t42.1, (t42.2.1, (t42.2.2.1, ()))))).bind fun t47 => let v48 : (List Int) := t47.2.1
 K (v48, ())
def Qs (k : Nat) (x_0 : (List Int)) (block : (List Int)) : Option ((List Int) × Unit) := Qs.c k x_0 block some
def Qs.tin : List Ty := [Qg1, Qg2]
def Qs.tout : List Ty := [Qg1]
def Qs.sem (k : Nat) : QK := QR Qs.tin Qs.tout fun x => Qs k x.1 x.2.1
noncomputable def Qs.ctx (k : Nat) : Ctx := ⟨Try.prog, gam [(134, (Qf.sem k)), (135, (QP.sem k)), (136, (QU.sem k))]⟩
theorem Qs.gok (k : Nat) : ∀ f, Qz Try.prog f ((Qs.ctx k).Γ f) := (QA (Qf.sem_ok k) (QA (QP.sem_ok k) (QA (QU.sem_ok k) Q03)))
theorem Qs.l1.round (k : Nat) : Q0s (Qs.ctx k) (QZ (Func.code Try.f129) [1, 1, 1, 1, 0, 1, 0, 0]) (.nil) Qs.l1.T [.mask [2, 4, 7, 107], .auto 0] Qs.l1.os (Qs.l1.r k) := by
 intro ρ x kn ke; kernel_rfl
theorem Qs.l1.ok (k : Nat) : StOK 0 Try.prog (.loop (QZ (Func.code Try.f129) [1, 1, 1, 1, 0, 1, 0, 0])) (QE Qs.l1.T Qs.l1.os (Qs.l1 k k)) :=
 Q0u (C := Qs.ctx k) (Qs.gok k) Try.mix Q8.nil (by kernel_rfl) (by kernel_rfl) (by kernel_rfl) (Qs.l1.round k) k
theorem Qs.l0.round (k : Nat) : Q0s (Qs.ctx k) (QZ (Func.code Try.f129) [1, 1, 1, 0, 1, 0, 0]) (.nil) Qs.l0.T [.mask [2, 4, 5, 6, 7, 20], .auto 0] Qs.l0.os (Qs.l0.r k) := by
 intro ρ x kn ke; kernel_rfl
theorem Qs.l0.ok (k : Nat) : StOK 0 Try.prog (.loop (QZ (Func.code Try.f129) [1, 1, 1, 0, 1, 0, 0])) (QE Qs.l0.T Qs.l0.os (Qs.l0 k k)) :=
 Q0u (C := Qs.ctx k) (Qs.gok k) Try.mix Q8.nil (by kernel_rfl) (by kernel_rfl) (by kernel_rfl) (Qs.l0.round k) k
def Qs.ann (k : Nat) : Ann := .node [] none (.nil) (.node [] none (.nil) (.node [] none (.nil) (.node [] none (.node [] none (.nil) (.node [] none (.node [.mask [2, 4, 5, 6, 7, 20], .auto 0] (some (QE Qs.l0.T Qs.l0.os (Qs.l0 k k))) .nil .nil) (.nil))) (.node [] none (.node [] none (.nil) (.node [] none (.node [.mask [2, 4, 7, 107], .auto 0] (some (QE Qs.l1.T Qs.l1.os (Qs.l1 k k))) .nil .nil) (.nil))) (.nil)))))
theorem Qs.body (k : Nat) : Q0t (Qs.ctx k) Try.f129 (Func.code Try.f129) (Qs.ann k) Qs.tin Qs.tout (fun x K => Qs.c k x.1 x.2.1 K) := by
 intro ρ x K; kernel_rfl
theorem Qs.sem_ok (k : Nat) : Qz Try.prog 129 (Qs.sem k) :=
 QT (C := Qs.ctx k) (Qs.gok k) Try.mix (c := Func.code Try.f129) (ann := Qs.ann k) (tin := Qs.tin) (tout := Qs.tout) (fun x K => Qs.c k x.1 x.2.1 K) Try.func129 (by kernel_rfl) (by kernel_rfl) (Q8.seq Q8.nil (Q8.seq Q8.nil (Q8.seq Q8.nil (Q8.seq (Q8.seq Q8.nil (Q8.block (Q8.loop (by kernel_rfl) (Qs.l0.ok k)))) (Q8.seq (Q8.seq Q8.nil (Q8.block (Q8.loop (by kernel_rfl) (Qs.l1.ok k)))) Q8.nil))))) (Qs.body k)
abbrev Qe.l0.σ : Type := QfY × (List Int) × Unit
abbrev Qe.l0.τ : Type := QfW 
def Qe.l0.r (k : Nat) {ρ : Type} (x : Qe.l0.σ) (kn : Qe.l0.σ → Option ρ) (ke : Qe.l0.τ → Option ρ) : Option ρ :=
 let v2 : Int := (((List.length x.2.1) : Nat) : Int)
 bif (decide (v2 ≥ (64 : Int))) then (let v3 : (List Int) := x.1.1
 bif (decide (64 ≤ (List.length x.2.1))) then (let v4 : (List Int) := (List.take 64 (List.drop 0 x.2.1))
 (Qs k v3 v4).bind fun t5 => bif (decide (((0 : Int) ≤ (64 : Int)) ∧ (((64 : Int) ≤ (((List.length x.2.1) : Nat) : Int)) ∧ ((((List.length x.2.1) : Nat) : Int) ≤ (((List.length x.2.1) : Nat) : Int))))) then (kn ((t5.1, ((), (x.1.2.2.1, ()))), ((List.take (Int.toNat ((((List.length x.2.1) : Nat) : Int) - (64 : Int))) (List.drop 64 x.2.1)), ()))) else (none)) else (none)) else (ke ((x.1.1, ((), (x.1.2.2.1, ()))), (x.2.1, ())))
def Qe.l0 (k : Nat) : Nat → Qe.l0.σ → Option Qe.l0.τ := Q0o (Qe.l0.r k)
def Qe.l0.T : StT := ⟨.ptr 0 [] :: us 52, [.pair (.dat Qg1) (.pair (.vsl 1) (.dat QfZ)), .vec (.int .u8)]⟩
def Qe.l0.os : List Out := [⟨(.exit 0), [.mask [], .auto 1], ⟨us 53, [.pair (.dat Qg1) (.pair (.vsl 1) (.dat QfZ)), .vec (.int .u8)]⟩⟩]
abbrev Qe.τ : Type := QfW 
def Qe.c (k : Nat) {ρ : Type} (s : ByteArray) (b0 : QfY) (K : Qe.τ → Option ρ) : Option ρ :=
 let v0 : Int := b0.2.2.1
 let v1 : Int := (IntKind.wrap IntKind.u64 (v0 + (IntKind.wrap IntKind.u64 (((ByteArray.size s) : Nat) : Int))))
 bif (Nat.ble ((List.length (Qj s)) * 1) 140737488355328) then ((Qe.l0 k k ((b0.1, ((), (v1, ()))), ((Qj s), ()))).bind fun t6 => K ((t6.1.1, ((), (t6.1.2.2.1, ()))), (t6.2.1, ()))) else (none)
def Qe (k : Nat) (s : ByteArray) (b0 : QfY) : Option Qe.τ := Qe.c k s b0 some
def Qe.T : Q0V := ⟨[.ptr 0 [], .dat .str], [.pair (.dat Qg1) (.pair (.nils) (.dat QfZ))], 1⟩
def Qe.os : List Out := [⟨.ret, [.auto 1], ⟨[], [.pair (.dat Qg1) (.pair (.vsl 1) (.dat QfZ)), .vec (.int .u8)]⟩⟩]
def Qe.sem (k : Nat) : QK := Q1j Qe.T Qe.os fun x => Qe k x.1 x.2.1
noncomputable def Qe.ctx (k : Nat) : Ctx := ⟨Try.prog, gam [(129, (Qs.sem k))]⟩
theorem Qe.gok (k : Nat) : ∀ f, Qz Try.prog f ((Qe.ctx k).Γ f) := (QA (Qs.sem_ok k) Q03)
theorem Qe.l0.round (k : Nat) : Q0s (Qe.ctx k) (QZ (Func.code Try.f118) [1, 1, 1, 0, 0]) (.nil) Qe.l0.T [.mask [0], .auto 1] Qe.l0.os (Qe.l0.r k) := by
 intro ρ x kn ke; kernel_rfl
theorem Qe.l0.ok (k : Nat) : StOK 1 Try.prog (.loop (QZ (Func.code Try.f118) [1, 1, 1, 0, 0])) (QE Qe.l0.T Qe.l0.os (Qe.l0 k k)) :=
 Q0u (C := Qe.ctx k) (Qe.gok k) Try.mix Q8.nil (by kernel_rfl) (by kernel_rfl) (by kernel_rfl) (Qe.l0.round k) k
def Qe.ann (k : Nat) : Ann := .node [] none (.nil) (.node [] none (.nil) (.node [] none (.nil) (.node [] none (.node [.mask [0], .auto 1] (some (QE Qe.l0.T Qe.l0.os (Qe.l0 k k))) .nil .nil) (.nil))))
theorem Qe.body (k : Nat) : Q1E (Qe.ctx k) Try.f118 (Func.code Try.f118) (Qe.ann k) Qe.T Qe.os (fun x K => Qe.c k x.1 x.2.1 K) := by
 intro ρ x K; kernel_rfl
theorem Qe.sem_ok (k : Nat) : Qz Try.prog 118 (Qe.sem k) :=
 Q0E (C := Qe.ctx k) (Qe.gok k) Try.mix (c := Func.code Try.f118) (ann := Qe.ann k) (T := Qe.T) (os := Qe.os) (fun x K => Qe.c k x.1 x.2.1 K) Try.func118 (by kernel_rfl) (by kernel_rfl) (Q8.seq Q8.nil (Q8.seq Q8.nil (Q8.seq Q8.nil (Q8.block (Q8.loop (by kernel_rfl) (Qe.l0.ok k)))))) (Qe.body k) (by kernel_rfl) (by kernel_rfl) (by kernel_rfl)
abbrev Qy.τ : Type := (QfY × (List Int) × QfY × (List Int) × Unit)
def Qy.c (k : Nat) {ρ : Type} (b0 : QfY) (b1 : (List Int)) (K : Qy.τ → Option ρ) : Option ρ :=
 let v0 : (List Int) := b0.1
 bif (Nat.ble ((List.length b1) * 1) 140737488355328) then (let v1 : Int := b0.2.2.1
 K ((b0.1, ((), (b0.2.2.1, ()))), (b1, ((v0, ((), (v1, ()))), (b1, ()))))) else (none)
def Qy (k : Nat) (b0 : QfY) (b1 : (List Int)) : Option Qy.τ := Qy.c k b0 b1 some
def Qy.T : Q0V := ⟨[.ptr 0 []], [.pair (.dat Qg1) (.pair (.vsl 1) (.dat QfZ)), .vec (.int .u8)], 1⟩
def Qy.os : List Out := [⟨.ret, [.auto 1], ⟨[.ptr 2 []], [.pair (.dat Qg1) (.pair (.vsl 1) (.dat QfZ)), .vec (.int .u8), .pair (.dat Qg1) (.pair (.vsl 3) (.dat QfZ)), .vec (.int .u8)]⟩⟩]
def Qy.sem (k : Nat) : QK := Q1j Qy.T Qy.os fun x => Qy k x.1 x.2.1
noncomputable def Qy.ctx (k : Nat) : Ctx := ⟨Try.prog, gam []⟩
theorem Qy.gok (k : Nat) : ∀ f, Qz Try.prog f ((Qy.ctx k).Γ f) := Q03
def Qy.ann (k : Nat) : Ann := .nil
theorem Qy.body (k : Nat) : Q1E (Qy.ctx k) Try.f130 (Func.code Try.f130) (Qy.ann k) Qy.T Qy.os (fun x K => Qy.c k x.1 x.2.1 K) := by
 intro ρ x K; kernel_rfl
theorem Qy.sem_ok (k : Nat) : Qz Try.prog 130 (Qy.sem k) :=
 Q0E (C := Qy.ctx k) (Qy.gok k) Try.mix (c := Func.code Try.f130) (ann := Qy.ann k) (T := Qy.T) (os := Qy.os) (fun x K => Qy.c k x.1 x.2.1 K) Try.func130 (by kernel_rfl) (by kernel_rfl) Q8.nil (Qy.body k) (by kernel_rfl) (by kernel_rfl) (by kernel_rfl)
abbrev QW.l0.σ : Type := Int × Int × (List Int) × Unit
abbrev QW.l0.τ : Type := ((List Int) × Unit)
def QW.l0.r (k : Nat) {ρ : Type} (x : QW.l0.σ) (kn : QW.l0.σ → Option ρ) (ke : QW.l0.τ → Option ρ) : Option ρ :=
 bif (decide (x.2.1 < (8 : Int))) then (let v5 : Int := (Q1H IntKind.u64 x.1 (3 : Int))
 let v6 : Int := (IntKind.wrap IntKind.i64 ((7 : Int) - x.2.1))
 let v7 : Int := (IntKind.wrap IntKind.i64 ((8 : Int) * v6))
 bif (decide ((0 : Int) ≤ v7)) then (bif (Nat.ble (((List.length x.2.2.1) + (List.length (List.set (List.replicate 1 (0 : Int)) 0 (IntKind.wrap IntKind.u8 (Q10 IntKind.u64 v5 v7))))) * 1) 140737488355328) then (let v8 : Int := (IntKind.wrap IntKind.i64 (x.2.1 + (1 : Int)))
 kn (x.1, (v8, ((x.2.2.1 ++ (List.set (List.replicate 1 (0 : Int)) 0 (IntKind.wrap IntKind.u8 (Q10 IntKind.u64 v5 v7)))), ())))) else (none)) else (none)) else (ke (x.2.2.1, ()))
def QW.l0 (k : Nat) : Nat → QW.l0.σ → Option QW.l0.τ := Q0o (QW.l0.r k)
def QW.l0.T : StT := ⟨.dat (.int .u64) :: us 3 ++ .vsl 0 :: us 14 ++ .dat (.int .i64) :: us 15, [.vec (.int .u8)]⟩
def QW.l0.os : List Out := [⟨(.exit 0), [.mask [4], .auto 0], ⟨us 4 ++ .vsl 0 :: us 30, [.vec (.int .u8)]⟩⟩]
def QW.c (k : Nat) {ρ : Type} (n : Int) (K : ByteArray × Unit → Option ρ) : Option ρ :=
 let v0 : Int := (IntKind.wrap IntKind.i64 (Int.tmod n (64 : Int)))
 let v1 : Int := (IntKind.wrap IntKind.i64 ((119 : Int) - v0))
 let v2 : Int := (IntKind.wrap IntKind.i64 ((1 : Int) + (Int.tmod v1 (64 : Int))))
 let v3 : Int := (IntKind.wrap IntKind.i64 ((1 : Int) + (Int.tmod v1 (64 : Int))))
 let v4 : Int := (IntKind.wrap IntKind.i64 (v3 + (8 : Int)))
 bif ((decide (((0 : Int) ≤ v2) ∧ (v2 ≤ v4))) && (Nat.ble ((Int.toNat v4) * 1) 140737488355328)) then (bif (decide (((0 : Int) ≤ (0 : Int)) ∧ ((0 : Int) < (((List.length (List.replicate (Int.toNat v2) (0 : Int))) : Nat) : Int)))) then ((QW.l0 k k (n, ((0 : Int), ((List.set (List.replicate (Int.toNat v2) (0 : Int)) 0 (128 : Int)), ())))).bind fun t9 => K ((bytesOf t9.1), ())) else (none)) else (none)
def QW (k : Nat) (n : Int) : Option (ByteArray × Unit) := QW.c k n some
def QW.tin : List Ty := [(.int .u64)]
def QW.tout : List Ty := [.str]
def QW.sem (k : Nat) : QK := QR QW.tin QW.tout fun x => QW k x.1
noncomputable def QW.ctx (k : Nat) : Ctx := ⟨Try.prog, gam []⟩
theorem QW.gok (k : Nat) : ∀ f, Qz Try.prog f ((QW.ctx k).Γ f) := Q03
theorem QW.l0.round (k : Nat) : Q0s (QW.ctx k) (QZ (Func.code Try.f131) [1, 1, 1, 1, 0, 1, 0, 0]) (.nil) QW.l0.T [.mask [0, 4, 19], .auto 0] QW.l0.os (QW.l0.r k) := by
 intro ρ x kn ke; kernel_rfl
theorem QW.l0.ok (k : Nat) : StOK 0 Try.prog (.loop (QZ (Func.code Try.f131) [1, 1, 1, 1, 0, 1, 0, 0])) (QE QW.l0.T QW.l0.os (QW.l0 k k)) :=
 Q0u (C := QW.ctx k) (QW.gok k) Try.mix Q8.nil (by kernel_rfl) (by kernel_rfl) (by kernel_rfl) (QW.l0.round k) k
def QW.ann (k : Nat) : Ann := .node [] none (.nil) (.node [] none (.nil) (.node [] none (.nil) (.node [] none (.nil) (.node [] none (.node [] none (.nil) (.node [] none (.node [.mask [0, 4, 19], .auto 0] (some (QE QW.l0.T QW.l0.os (QW.l0 k k))) .nil .nil) (.nil))) (.nil)))))
theorem QW.body (k : Nat) : Q0t (QW.ctx k) Try.f131 (Func.code Try.f131) (QW.ann k) QW.tin QW.tout (fun x K => QW.c k x.1 K) := by
 intro ρ x K; kernel_rfl
theorem QW.sem_ok (k : Nat) : Qz Try.prog 131 (QW.sem k) :=
 QT (C := QW.ctx k) (QW.gok k) Try.mix (c := Func.code Try.f131) (ann := QW.ann k) (tin := QW.tin) (tout := QW.tout) (fun x K => QW.c k x.1 K) Try.func131 (by kernel_rfl) (by kernel_rfl) (Q8.seq Q8.nil (Q8.seq Q8.nil (Q8.seq Q8.nil (Q8.seq Q8.nil (Q8.seq (Q8.seq Q8.nil (Q8.block (Q8.loop (by kernel_rfl) (QW.l0.ok k)))) Q8.nil))))) (QW.body k)
abbrev Qc.l0.σ : Type := QfY × (List Int) × Unit
abbrev Qc.l0.τ : Type := QfW 
def Qc.l0.r (k : Nat) {ρ : Type} (x : Qc.l0.σ) (kn : Qc.l0.σ → Option ρ) (ke : Qc.l0.τ → Option ρ) : Option ρ :=
 let v2 : Int := (((List.length x.2.1) : Nat) : Int)
 bif (decide (v2 ≥ (64 : Int))) then (let v3 : (List Int) := x.1.1
 bif (decide (64 ≤ (List.length x.2.1))) then (let v4 : (List Int) := (List.take 64 (List.drop 0 x.2.1))
 (Qs k v3 v4).bind fun t5 => bif (decide (((0 : Int) ≤ (64 : Int)) ∧ (((64 : Int) ≤ (((List.length x.2.1) : Nat) : Int)) ∧ ((((List.length x.2.1) : Nat) : Int) ≤ (((List.length x.2.1) : Nat) : Int))))) then (kn ((t5.1, ((), (x.1.2.2.1, ()))), ((List.take (Int.toNat ((((List.length x.2.1) : Nat) : Int) - (64 : Int))) (List.drop 64 x.2.1)), ()))) else (none)) else (none)) else (ke ((x.1.1, ((), (x.1.2.2.1, ()))), (x.2.1, ())))
def Qc.l0 (k : Nat) : Nat → Qc.l0.σ → Option Qc.l0.τ := Q0o (Qc.l0.r k)
def Qc.l0.T : StT := ⟨.ptr 0 [] :: us 52, [.pair (.dat Qg1) (.pair (.vsl 1) (.dat QfZ)), .vec (.int .u8)]⟩
def Qc.l0.os : List Out := [⟨(.exit 0), [.mask [], .auto 1], ⟨us 53, [.pair (.dat Qg1) (.pair (.vsl 1) (.dat QfZ)), .vec (.int .u8)]⟩⟩]
abbrev Qc.τ : Type := QfW 
def Qc.c (k : Nat) {ρ : Type} (s : ByteArray) (b0 : QfY) (b1 : (List Int)) (K : Qc.τ → Option ρ) : Option ρ :=
 let v0 : Int := b0.2.2.1
 let v1 : Int := (IntKind.wrap IntKind.u64 (v0 + (IntKind.wrap IntKind.u64 (((ByteArray.size s) : Nat) : Int))))
 bif (Nat.ble (((List.length b1) + (List.length (Qj s))) * 1) 140737488355328) then ((Qc.l0 k k ((b0.1, ((), (v1, ()))), ((b1 ++ (Qj s)), ()))).bind fun t6 => K ((t6.1.1, ((), (t6.1.2.2.1, ()))), (t6.2.1, ()))) else (none)
def Qc (k : Nat) (s : ByteArray) (b0 : QfY) (b1 : (List Int)) : Option Qc.τ := Qc.c k s b0 b1 some
def Qc.T : Q0V := ⟨[.ptr 0 [], .dat .str], [.pair (.dat Qg1) (.pair (.vsl 1) (.dat QfZ)), .vec (.int .u8)], 1⟩
def Qc.os : List Out := [⟨.ret, [.auto 1], ⟨[], [.pair (.dat Qg1) (.pair (.vsl 1) (.dat QfZ)), .vec (.int .u8)]⟩⟩]
def Qc.sem (k : Nat) : QK := Q1j Qc.T Qc.os fun x => Qc k x.1 x.2.1 x.2.2.1
noncomputable def Qc.ctx (k : Nat) : Ctx := ⟨Try.prog, gam [(129, (Qs.sem k))]⟩
theorem Qc.gok (k : Nat) : ∀ f, Qz Try.prog f ((Qc.ctx k).Γ f) := (QA (Qs.sem_ok k) Q03)
theorem Qc.l0.round (k : Nat) : Q0s (Qc.ctx k) (QZ (Func.code Try.f118) [1, 1, 1, 0, 0]) (.nil) Qc.l0.T [.mask [0], .auto 1] Qc.l0.os (Qc.l0.r k) := by
 intro ρ x kn ke; kernel_rfl
theorem Qc.l0.ok (k : Nat) : StOK 1 Try.prog (.loop (QZ (Func.code Try.f118) [1, 1, 1, 0, 0])) (QE Qc.l0.T Qc.l0.os (Qc.l0 k k)) :=
 Q0u (C := Qc.ctx k) (Qc.gok k) Try.mix Q8.nil (by kernel_rfl) (by kernel_rfl) (by kernel_rfl) (Qc.l0.round k) k
def Qc.ann (k : Nat) : Ann := .node [] none (.nil) (.node [] none (.nil) (.node [] none (.nil) (.node [] none (.node [.mask [0], .auto 1] (some (QE Qc.l0.T Qc.l0.os (Qc.l0 k k))) .nil .nil) (.nil))))
theorem Qc.body (k : Nat) : Q1E (Qc.ctx k) Try.f118 (Func.code Try.f118) (Qc.ann k) Qc.T Qc.os (fun x K => Qc.c k x.1 x.2.1 x.2.2.1 K) := by
 intro ρ x K; kernel_rfl
theorem Qc.sem_ok (k : Nat) : Qz Try.prog 118 (Qc.sem k) :=
 Q0E (C := Qc.ctx k) (Qc.gok k) Try.mix (c := Func.code Try.f118) (ann := Qc.ann k) (T := Qc.T) (os := Qc.os) (fun x K => Qc.c k x.1 x.2.1 x.2.2.1 K) Try.func118 (by kernel_rfl) (by kernel_rfl) (Q8.seq Q8.nil (Q8.seq Q8.nil (Q8.seq Q8.nil (Q8.block (Q8.loop (by kernel_rfl) (Qc.l0.ok k)))))) (Qc.body k) (by kernel_rfl) (by kernel_rfl) (by kernel_rfl)
abbrev Q9.l1.σ : Type := Int × Int × (List Int) × Int × Int × QfY × (List Int) × (List Int) × (List Int) × Unit
abbrev Q9.l1.τ : Type := ((List Int) × Int × QfY × (List Int) × (List Int) × (List Int) × Unit)
def Q9.l1.r (k : Nat) {ρ : Type} (x : Q9.l1.σ) (kn : Q9.l1.σ → Option ρ) (ke : Q9.l1.τ → Option ρ) : Option ρ :=
 bif (decide (x.2.2.2.2.1 < (4 : Int))) then (let v6 : Int := (IntKind.wrap IntKind.i64 ((4 : Int) * x.1))
 let v7 : Int := (IntKind.wrap IntKind.i64 (v6 + x.2.2.2.2.1))
 let v8 : Int := (IntKind.wrap IntKind.i64 ((3 : Int) - x.2.2.2.2.1))
 let v9 : Int := (IntKind.wrap IntKind.i64 ((8 : Int) * v8))
 bif (decide ((0 : Int) ≤ v9)) then (let v10 : Int := (Q10 IntKind.u32 x.2.1 v9)
 bif (decide (((0 : Int) ≤ v7) ∧ (v7 < ((32 : Nat) : Int)))) then (let v11 : Int := (IntKind.wrap IntKind.i64 (x.2.2.2.2.1 + (1 : Int)))
 kn (x.1, (x.2.1, (x.2.2.1, (x.2.2.2.1, (v11, ((x.2.2.2.2.2.1.1, ((), (x.2.2.2.2.2.1.2.2.1, ()))), (x.2.2.2.2.2.2.1, (x.2.2.2.2.2.2.2.1, ((List.set x.2.2.2.2.2.2.2.2.1 (Int.toNat v7) (IntKind.wrap IntKind.u8 v10)), ())))))))))) else (none)) else (none)) else (ke (x.2.2.1, (x.2.2.2.1, ((x.2.2.2.2.2.1.1, ((), (x.2.2.2.2.2.1.2.2.1, ()))), (x.2.2.2.2.2.2.1, (x.2.2.2.2.2.2.2.1, (x.2.2.2.2.2.2.2.2.1, ())))))))
def Q9.l1 (k : Nat) : Nat → Q9.l1.σ → Option Q9.l1.τ := Q0o (Q9.l1.r k)
def Q9.l1.T : StT := ⟨us 2 ++ .ptr 2 [] :: us 1 ++ .ptr 3 [] :: .dat (.int .i64) :: .dat (.int .u32) :: us 17 ++ .dat Qg1 :: .dat (.int .i64) :: us 3 ++ .dat (.int .i64) :: us 16, [.pair (.dat Qg1) (.pair (.vsl 1) (.dat QfZ)), .vec (.int .u8), .dat Qg3, .dat Qg3]⟩
def Q9.l1.os : List Out := [⟨(.exit 2), [.mask [2, 4, 24, 25], .auto 1], ⟨us 2 ++ .ptr 2 [] :: us 1 ++ .ptr 3 [] :: us 19 ++ .dat Qg1 :: .dat (.int .i64) :: us 20, [.pair (.dat Qg1) (.pair (.vsl 1) (.dat QfZ)), .vec (.int .u8), .dat Qg3, .dat Qg3]⟩⟩]
abbrev Q9.l0.σ : Type := (List Int) × Int × QfY × (List Int) × (List Int) × (List Int) × Unit
abbrev Q9.l0.τ : Type := (QfY × (List Int) × (List Int) × (List Int) × Unit)
def Q9.l0.r (k : Nat) {ρ : Type} (x : Q9.l0.σ) (kn : Q9.l0.σ → Option ρ) (ke : Q9.l0.τ → Option ρ) : Option ρ :=
 bif (decide (x.2.1 < (8 : Int))) then (bif (decide (((0 : Int) ≤ x.2.1) ∧ (x.2.1 < ((8 : Nat) : Int)))) then (let v5 : Int := (List.getD x.1 (Int.toNat x.2.1) (0 : Int))
 (Q9.l1 k k (x.2.1, (v5, (x.1, (x.2.1, ((0 : Int), ((x.2.2.1.1, ((), (x.2.2.1.2.2.1, ()))), (x.2.2.2.1, (x.2.2.2.2.1, (x.2.2.2.2.2.1, ())))))))))).bind fun t12 => let v13 : Int := (IntKind.wrap IntKind.i64 (t12.2.1 + (1 : Int)))
 kn (t12.1, (v13, ((t12.2.2.1.1, ((), (t12.2.2.1.2.2.1, ()))), (t12.2.2.2.1, (t12.2.2.2.2.1, (t12.2.2.2.2.2.1, ()))))))) else (none)) else (ke ((x.2.2.1.1, ((), (x.2.2.1.2.2.1, ()))), (x.2.2.2.1, (x.2.2.2.2.1, (x.2.2.2.2.2.1, ())))))
def Q9.l0 (k : Nat) : Nat → Q9.l0.σ → Option Q9.l0.τ := Q0o (Q9.l0.r k)
def Q9.l0.T : StT := ⟨us 2 ++ .ptr 2 [] :: us 1 ++ .ptr 3 [] :: us 19 ++ .dat Qg1 :: .dat (.int .i64) :: us 20, [.pair (.dat Qg1) (.pair (.vsl 1) (.dat QfZ)), .vec (.int .u8), .dat Qg3, .dat Qg3]⟩
def Q9.l0.os : List Out := [⟨(.exit 0), [.mask [2, 4], .auto 1], ⟨us 2 ++ .ptr 2 [] :: us 1 ++ .ptr 3 [] :: us 41, [.pair (.dat Qg1) (.pair (.vsl 1) (.dat QfZ)), .vec (.int .u8), .dat Qg3, .dat Qg3]⟩⟩]
abbrev Q9.τ : Type := ((List Int) × QfY × (List Int) × Unit)
def Q9.c (k : Nat) {ρ : Type} (b0 : QfY) (b1 : (List Int)) (K : Q9.τ → Option ρ) : Option ρ :=
 (Qy k (b0.1, ((), (b0.2.2.1, ()))) b1).bind fun t0 => let v1 : Int := t0.1.2.2.1
 (QW k v1).bind fun t2 => (Qc k t2.1 (t0.2.2.1.1, ((), (t0.2.2.1.2.2.1, ()))) t0.2.2.2.1).bind fun t3 => let v4 : (List Int) := t3.1.1
 (Q9.l0 k k (v4, ((0 : Int), ((t0.1.1, ((), (t0.1.2.2.1, ()))), (t0.2.1, ((List.replicate 32 (0 : Int)), ((List.replicate 32 (0 : Int)), ()))))))).bind fun t14 => let v15 : (List Int) := t14.2.2.2.1
 K (v15, ((t14.1.1, ((), (t14.1.2.2.1, ()))), (t14.2.1, ())))
def Q9 (k : Nat) (b0 : QfY) (b1 : (List Int)) : Option Q9.τ := Q9.c k b0 b1 some
def Q9.T : Q0V := ⟨[.ptr 0 []], [.pair (.dat Qg1) (.pair (.vsl 1) (.dat QfZ)), .vec (.int .u8)], 1⟩
def Q9.os : List Out := [⟨.ret, [.freeze (.slot 0), .auto 1], ⟨[.dat Qg3], [.pair (.dat Qg1) (.pair (.vsl 1) (.dat QfZ)), .vec (.int .u8)]⟩⟩]
def Q9.sem (k : Nat) : QK := Q1j Q9.T Q9.os fun x => Q9 k x.1 x.2.1
noncomputable def Q9.ctx (k : Nat) : Ctx := ⟨Try.prog, gam [(130, (Qy.sem k)), (131, (QW.sem k)), (118, (Qc.sem k))]⟩
theorem Q9.gok (k : Nat) : ∀ f, Qz Try.prog f ((Q9.ctx k).Γ f) := (QA (Qy.sem_ok k) (QA (QW.sem_ok k) (QA (Qc.sem_ok k) Q03)))
theorem Q9.l1.round (k : Nat) : Q0s (Q9.ctx k) (QZ (Func.code Try.f119) [1, 1, 1, 1, 1, 0, 1, 0, 0, 1, 1, 0, 0, 1, 1, 0, 0]) (.nil) Q9.l1.T [.mask [2, 4, 5, 6, 24, 25, 29], .auto 1] Q9.l1.os (Q9.l1.r k) := by
 intro ρ x kn ke; kernel_rfl
theorem Q9.l1.ok (k : Nat) : StOK 1 Try.prog (.loop (QZ (Func.code Try.f119) [1, 1, 1, 1, 1, 0, 1, 0, 0, 1, 1, 0, 0, 1, 1, 0, 0])) (QE Q9.l1.T Q9.l1.os (Q9.l1 k k)) :=
 Q0u (C := Q9.ctx k) (Q9.gok k) Try.mix Q8.nil (by kernel_rfl) (by kernel_rfl) (by kernel_rfl) (Q9.l1.round k) k
theorem Q9.l0.round (k : Nat) : Q0s (Q9.ctx k) (QZ (Func.code Try.f119) [1, 1, 1, 1, 1, 0, 1, 0, 0]) (.node [] none (.nil) (.node [] none (.nil) (.node [] none (.node [] none (.node [] none (.nil) (.node [] none (.nil) (.node [] none (.node [.mask [2, 4, 5, 6, 24, 25, 29], .auto 1] (some (QE Q9.l1.T Q9.l1.os (Q9.l1 k k))) .nil .nil) (.nil)))) (.nil)) (.nil)))) Q9.l0.T [.mask [2, 4, 24, 25], .auto 1] Q9.l0.os (Q9.l0.r k) := by
 intro ρ x kn ke; kernel_rfl
theorem Q9.l0.ok (k : Nat) : StOK 1 Try.prog (.loop (QZ (Func.code Try.f119) [1, 1, 1, 1, 1, 0, 1, 0, 0])) (QE Q9.l0.T Q9.l0.os (Q9.l0 k k)) :=
 Q0u (C := Q9.ctx k) (Q9.gok k) Try.mix (Q8.seq Q8.nil (Q8.seq Q8.nil (Q8.seq (Q8.block (Q8.seq Q8.nil (Q8.seq Q8.nil (Q8.block (Q8.loop (by kernel_rfl) (Q9.l1.ok k)))))) Q8.nil))) (by kernel_rfl) (by kernel_rfl) (by kernel_rfl) (Q9.l0.round k) k
def Q9.ann (k : Nat) : Ann := .node [] none (.nil) (.node [] none (.nil) (.node [] none (.nil) (.node [] none (.nil) (.node [] none (.nil) (.node [] none (.node [] none (.nil) (.node [] none (.node [.mask [2, 4, 24, 25], .auto 1] (some (QE Q9.l0.T Q9.l0.os (Q9.l0 k k))) .nil .nil) (.nil))) (.nil))))))
theorem Q9.body (k : Nat) : Q1E (Q9.ctx k) Try.f119 (Func.code Try.f119) (Q9.ann k) Q9.T Q9.os (fun x K => Q9.c k x.1 x.2.1 K) := by
 intro ρ x K; kernel_rfl
theorem Q9.sem_ok (k : Nat) : Qz Try.prog 119 (Q9.sem k) :=
 Q0E (C := Q9.ctx k) (Q9.gok k) Try.mix (c := Func.code Try.f119) (ann := Q9.ann k) (T := Q9.T) (os := Q9.os) (fun x K => Q9.c k x.1 x.2.1 K) Try.func119 (by kernel_rfl) (by kernel_rfl) (Q8.seq Q8.nil (Q8.seq Q8.nil (Q8.seq Q8.nil (Q8.seq Q8.nil (Q8.seq Q8.nil (Q8.seq (Q8.seq Q8.nil (Q8.block (Q8.loop (by kernel_rfl) (Q9.l0.ok k)))) Q8.nil)))))) (Q9.body k) (by kernel_rfl) (by kernel_rfl) (by kernel_rfl)
def Q0q.c (k : Nat) {ρ : Type} (s : ByteArray) (K : (List Int) × Unit → Option ρ) : Option ρ :=
 (Q0m k ).bind fun t0 => (Qe k s (t0.1.1, ((), (t0.1.2.2.1, ())))).bind fun t1 => (Q9 k (t1.1.1, ((), (t1.1.2.2.1, ()))) t1.2.1).bind fun t2 => K (t2.1, ())
def Q0q (k : Nat) (s : ByteArray) : Option ((List Int) × Unit) := Q0q.c k s some
def Q0q.tin : List Ty := [.str]
def Q0q.tout : List Ty := [Qg3]
def Q0q.sem (k : Nat) : QK := QR Q0q.tin Q0q.tout fun x => Q0q k x.1
noncomputable def Q0q.ctx (k : Nat) : Ctx := ⟨Try.prog, gam [(117, (Q0m.sem k)), (118, (Qe.sem k)), (119, (Q9.sem k))]⟩
theorem Q0q.gok (k : Nat) : ∀ f, Qz Try.prog f ((Q0q.ctx k).Γ f) := (QA (Q0m.sem_ok k) (QA (Qe.sem_ok k) (QA (Q9.sem_ok k) Q03)))
def Q0q.ann (k : Nat) : Ann := .nil
theorem Q0q.body (k : Nat) : Q0t (Q0q.ctx k) Try.f96 (Func.code Try.f96) (Q0q.ann k) Q0q.tin Q0q.tout (fun x K => Q0q.c k x.1 K) := by
 intro ρ x K; kernel_rfl
theorem Q0q.sem_ok (k : Nat) : Qz Try.prog 96 (Q0q.sem k) :=
 QT (C := Q0q.ctx k) (Q0q.gok k) Try.mix (c := Func.code Try.f96) (ann := Q0q.ann k) (tin := Q0q.tin) (tout := Q0q.tout) (fun x K => Q0q.c k x.1 K) Try.func96 (by kernel_rfl) (by kernel_rfl) Q8.nil (Q0q.body k)
end Go.Am
