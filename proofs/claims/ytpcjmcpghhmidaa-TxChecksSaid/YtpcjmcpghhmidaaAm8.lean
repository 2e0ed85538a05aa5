/- A part of a proof: a machine of abstract values that tells what functions of the program compute, and the plain facts on them. -/
import Derived.Test.YtpcjmcpghhmidaaAm6
import Derived.Test.YtpcjmcpghhmidaaRows
import Derived.KernelRfl
import Derived.Test.YtpcjmcpghhmidaaProg
import Derived.Test.YtpcjmcpghhmidaaAm7
set_option linter.unusedVariables false
set_option linter.unusedSimpArgs false
set_option linter.unnecessarySimpa false
set_option linter.unusedSectionVars false
namespace Go.Am
abbrev Qgn : Ty := (.arr 32 (.int .u8))
abbrev Qgm : Ty := (.arr 64 (.int .u8))
abbrev Qgl : Ty := (.arr 8 (.int .u32))
abbrev Qgk : Ty := (.arr 64 (.int .u32))
abbrev Qgj : Ty := (.pair (.int .u64) .unit)
abbrev Qgi : Type := ((List Int) × (Unit × (Int × Unit)))
abbrev Qgh : Type := ((List Int) × (List Int) × (List Int) × Unit)
abbrev Qgg : Type := ( Qgi  × (List Int) × Unit)
end Go.Am
namespace Go.Proofs.Ytpcjmcpghhmidaa
open Go.RowKit Go.Am
theorem Try.own : ownKnob Try.prog.godebug = none := by kernel_rfl
theorem Try.laidOut : laidOutB Try.prog = true := by kernel_rfl
end Go.Proofs.Ytpcjmcpghhmidaa
namespace Go.Am
open Go
theorem Qe5 {p : Int → Prop} {l : List Int} (h : ∀ i, i < l.length → p (l.getD i 0)) : ∀ x ∈ l, p x := by
 intro x hx
 obtain ⟨i, hi, rfl⟩ := List.getElem_of_mem hx
 have := h i hi
 rw [List.getD_eq_getElem?_getD] at this
 simpa [hi] using this
theorem Qez : reachBytes = 140737488351232 := rfl
end Go.Am
namespace Go.Am
open Go Go.Proofs
theorem _root_.Go.Proofs.Try.mix : Try.prog.follows .mixedOrders = true := by kernel_rfl
end Go.Am
namespace Go.Am
open Go Go.Proofs Go.Shelf
set_option maxRecDepth 100000
def Bld.fs : List (Nat × Nat) := [(240, 124), (276, 132), (169, 108), (105, 75), (99, 104), (165, 105), (166, 106), (170, 107), (206, 123), (212, 103), (241, 125), (263, 121), (264, 122), (277, 133)]
def Bld.ts : List (Nat × Nat) := [(72, 173), (70, 171), (164, 202), (37, 103), (127, 190), (20, 20), (46, 164), (51, 36), (53, 22), (75, 176), (76, 177), (109, 169), (146, 191), (148, 109), (80, 124)]
def Bld.look : List (Nat × Nat) → Nat → Nat
 | [], n => n
 | (a, b) :: l, n => if n = a then b else Bld.look l n
def Bld.ren : Ren := ⟨Bld.look Bld.fs, Bld.look Bld.ts, fun n => n⟩
theorem Bld.lays240 : Lays.n240 Try.prog Bld.ren := by
 constructor <;> first | kernel_rfl | (intro w; kernel_rfl)
theorem Bld.lays169 : Lays.n169 Try.prog Bld.ren := by
 constructor <;> first | kernel_rfl | (intro w; kernel_rfl)
theorem Bld.lays105 : Lays.n105 Try.prog Bld.ren := by
 constructor <;> first | kernel_rfl | (intro w; kernel_rfl)
theorem Bld.x72 : Builder.X72 Try.prog Bld.ren where
 sizeBuilder := by kernel_rfl
 liesBuilder := by kernel_rfl
theorem Bld.extra : Builder.Extra Try.prog Bld.ren where
 sizeBuilder := by kernel_rfl
 liesBuilder := by kernel_rfl
 t5 := by kernel_rfl
 a5 := fun w => by kernel_rfl
 z5 := fun w => by kernel_rfl
 v5 := fun w => by kernel_rfl
 infoByte := by kernel_rfl
 cellsByte := by kernel_rfl
 sizeByte := by kernel_rfl
 neB5 := by decide
theorem Bld.copyCheck : QG Try.prog 124 (Qec 180 2) := QaB Bld.lays240 Bld.x72 (by kernel_rfl) (by constructor <;> kernel_rfl)
theorem Bld.string : QG Try.prog 108 Qcv := Qdv Bld.lays169 Bld.extra rfl (by constructor <;> kernel_rfl)
def strings_Repeat (k : Nat) (s : ByteArray) (c : Int) : Option (ByteArray × Unit) := repJ s c
def strings_Repeat.tin : List Ty := [.str, (.int .i64)]
def strings_Repeat.tout : List Ty := [.str]
def strings_Repeat.sem (k : Nat) : QY := Q04 strings_Repeat.tin strings_Repeat.tout fun x => strings_Repeat k x.1 x.2.1
theorem strings_Repeat.sem_ok (k : Nat) : QG Try.prog 75 (strings_Repeat.sem k) :=
 Qdx Bld.lays105 Bld.extra (by constructor <;> kernel_rfl)
end Go.Am
namespace Go.Am
open Go Go.Proofs Go.Shelf
set_option maxRecDepth 100000
def Cln.fs : List (Nat × Nat) := [(316, 102)]
def Cln.ts : List (Nat × Nat) := [(37, 103), (127, 190)]
def Cln.ren : Ren := ⟨Bld.look Cln.fs, Bld.look Cln.ts, fun n => n⟩
theorem Cln.lays316 : LaysM.n316 Try.prog Cln.ren := by
 constructor <;> first | kernel_rfl | (intro w; kernel_rfl) | (constructor <;> first | kernel_rfl | (intro w; kernel_rfl))
def stringslite_Clone (k : Nat) (s : ByteArray) : Option (ByteArray × Unit) := Qav s
def stringslite_Clone.tin : List Ty := [.str]
def stringslite_Clone.tout : List Ty := [.str]
def stringslite_Clone.sem (k : Nat) : QY := Q04 stringslite_Clone.tin stringslite_Clone.tout fun x => stringslite_Clone k x.1
theorem stringslite_Clone.sem_ok (k : Nat) : QG Try.prog 102 (stringslite_Clone.sem k) :=
 Qe6 Cln.lays316 (by constructor <;> kernel_rfl)
def Q1C (k : Nat) (a b : List Int) : Option (Int × Unit) := some (cmpB a b, ())
def Q1C.tin : List Ty := [(.sl (.int .u8)), (.sl (.int .u8))]
def Q1C.tout : List Ty := [(.int .i64)]
def Q1C.sem (k : Nat) : QY := Q04 Q1C.tin Q1C.tout fun x => Q1C k x.1 x.2.1
theorem Q1C.sem_ok (k : Nat) : QG Try.prog 111 (Q1C.sem k) :=
 QbP Try.func111 (by kernel_rfl) (by kernel_rfl) (by kernel_rfl) (by kernel_rfl)
end Go.Am
namespace Go.Am
open Go Go.Proofs
set_option maxRecDepth 100000
def Q0X.c (k : Nat) {ρ : Type}  (K : (List Int) × Unit → Option ρ) : Option ρ :=
 let v0 : (List Int) := (List.set (List.set (List.set (List.set (List.set (List.set (List.set (List.set (List.replicate 8 (0 : Int)) 0 (1779033703 : Int)) 1 (3144134277 : Int)) 2 (1013904242 : Int)) 3 (2773480762 : Int)) 4 (1359893119 : Int)) 5 (2600822924 : Int)) 6 (528734635 : Int)) 7 (1541459225 : Int))
 K (v0, ())
def Q0X (k : Nat)  : Option ((List Int) × Unit) := Q0X.c k  some
def Q0X.tin : List Ty := []
def Q0X.tout : List Ty := [Qgl]
def Q0X.sem (k : Nat) : QY := Q04 Q0X.tin Q0X.tout fun x => Q0X k 
noncomputable def Q0X.ctx (k : Nat) : Ctx := ⟨Try.prog, gam []⟩
theorem Q0X.gok (k : Nat) : ∀ f, QG Try.prog f ((Q0X.ctx k).Γ f) := Q0e
def Q0X.ann (k : Nat) : Ann := .nil
theorem Q0X.body (k : Nat) : Q0K (Q0X.ctx k) Try.f128 (Func.code Try.f128) (Q0X.ann k) Q0X.tin Q0X.tout (fun x K => Q0X.c k  K) := by
 intro ρ x K; kernel_rfl
theorem Q0X.sem_ok (k : Nat) : QG Try.prog 128 (Q0X.sem k) :=
 QT (C := Q0X.ctx k) (Q0X.gok k) Try.mix (c := Func.code Try.f128) (ann := Q0X.ann k) (tin := Q0X.tin) (tout := Q0X.tout) (fun x K => Q0X.c k  K) Try.func128 (by kernel_rfl) (by kernel_rfl) Q3.nil (Q0X.body k)
abbrev Q1f.τ : Type := (Qgi × Unit)
def Q1f.c (k : Nat) {ρ : Type}  (K : Q1f.τ → Option ρ) : Option ρ :=
 (Q0X k ).bind fun t0 => K ((t0.1, ((), ((0 : Int), ()))), ())
def Q1f (k : Nat)  : Option Q1f.τ := Q1f.c k  some
def Q1f.T : Q1F := ⟨[], [], 0⟩
def Q1f.os : List Out := [⟨.ret, [.auto 0], ⟨[.ptr 0 []], [.pair (.dat Qgl) (.pair (.nils) (.dat Qgj))]⟩⟩]
def Q1f.sem (k : Nat) : QY := Q1U Q1f.T Q1f.os fun x => Q1f k 
noncomputable def Q1f.ctx (k : Nat) : Ctx := ⟨Try.prog, gam [(128, (Q0X.sem k))]⟩
theorem Q1f.gok (k : Nat) : ∀ f, QG Try.prog f ((Q1f.ctx k).Γ f) := (Qq (Q0X.sem_ok k) Q0e)
def Q1f.ann (k : Nat) : Ann := .nil
theorem Q1f.body (k : Nat) : Q1S (Q1f.ctx k) Try.f117 (Func.code Try.f117) (Q1f.ann k) Q1f.T Q1f.os (fun x K => Q1f.c k  K) := by
 intro ρ x K; kernel_rfl
theorem Q1f.sem_ok (k : Nat) : QG Try.prog 117 (Q1f.sem k) :=
 Q1c (C := Q1f.ctx k) (Q1f.gok k) Try.mix (c := Func.code Try.f117) (ann := Q1f.ann k) (T := Q1f.T) (os := Q1f.os) (fun x K => Q1f.c k  K) Try.func117 (by kernel_rfl) (by kernel_rfl) Q3.nil (Q1f.body k) (by kernel_rfl) (by kernel_rfl) (by kernel_rfl)
def QL.c (k : Nat) {ρ : Type} (x_0 : Int) (k_1 : Int) (K : Int × Unit → Option ρ) : Option ρ :=
 let v0 : Int := (Q0o BinOp.and IntKind.u64 (IntKind.wrap IntKind.u64 k_1) (31 : Int))
 bif (decide ((0 : Int) ≤ v0)) then (let v1 : Int := (IntKind.wrap IntKind.u64 ((32 : Int) - v0))
 bif (decide ((0 : Int) ≤ v1)) then (let v2 : Int := (Q0o BinOp.or IntKind.u32 (Q27 IntKind.u32 x_0 v0) (Q1W IntKind.u32 x_0 v1))
 K (v2, ())) else (none)) else (none)
def QL (k : Nat) (x_0 : Int) (k_1 : Int) : Option (Int × Unit) := QL.c k x_0 k_1 some
def QL.tin : List Ty := [(.int .u32), (.int .i64)]
def QL.tout : List Ty := [(.int .u32)]
def QL.sem (k : Nat) : QY := Q04 QL.tin QL.tout fun x => QL k x.1 x.2.1
noncomputable def QL.ctx (k : Nat) : Ctx := ⟨Try.prog, gam []⟩
theorem QL.gok (k : Nat) : ∀ f, QG Try.prog f ((QL.ctx k).Γ f) := Q0e
def QL.ann (k : Nat) : Ann := .nil
theorem QL.body (k : Nat) : Q0K (QL.ctx k) Try.f137 (Func.code Try.f137) (QL.ann k) QL.tin QL.tout (fun x K => QL.c k x.1 x.2.1 K) := by
 intro ρ x K; kernel_rfl
theorem QL.sem_ok (k : Nat) : QG Try.prog 137 (QL.sem k) :=
 QT (C := QL.ctx k) (QL.gok k) Try.mix (c := Func.code Try.f137) (ann := QL.ann k) (tin := QL.tin) (tout := QL.tout) (fun x K => QL.c k x.1 x.2.1 K) Try.func137 (by kernel_rfl) (by kernel_rfl) Q3.nil (QL.body k)
def Q0D.c (k : Nat) {ρ : Type} (x_0 : Int) (n : Int) (K : Int × Unit → Option ρ) : Option ρ :=
 let v0 : Int := (IntKind.wrap IntKind.i64 ((0 : Int) - n))
 (QL k x_0 v0).bind fun t1 => K (t1.1, ())
def Q0D (k : Nat) (x_0 : Int) (n : Int) : Option (Int × Unit) := Q0D.c k x_0 n some
def Q0D.tin : List Ty := [(.int .u32), (.int .i64)]
def Q0D.tout : List Ty := [(.int .u32)]
def Q0D.sem (k : Nat) : QY := Q04 Q0D.tin Q0D.tout fun x => Q0D k x.1 x.2.1
noncomputable def Q0D.ctx (k : Nat) : Ctx := ⟨Try.prog, gam [(137, (QL.sem k))]⟩
theorem Q0D.gok (k : Nat) : ∀ f, QG Try.prog f ((Q0D.ctx k).Γ f) := (Qq (QL.sem_ok k) Q0e)
def Q0D.ann (k : Nat) : Ann := .nil
theorem Q0D.body (k : Nat) : Q0K (Q0D.ctx k) Try.f136 (Func.code Try.f136) (Q0D.ann k) Q0D.tin Q0D.tout (fun x K => Q0D.c k x.1 x.2.1 K) := by
 intro ρ x K; kernel_rfl
theorem Q0D.sem_ok (k : Nat) : QG Try.prog 136 (Q0D.sem k) :=
 QT (C := Q0D.ctx k) (Q0D.gok k) Try.mix (c := Func.code Try.f136) (ann := Q0D.ann k) (tin := Q0D.tin) (tout := Q0D.tout) (fun x K => Q0D.c k x.1 x.2.1 K) Try.func136 (by kernel_rfl) (by kernel_rfl) Q3.nil (Q0D.body k)
abbrev Qw.l1.σ : Type := Int × Int × (Nat × Nat) × Int × Int × (List Int) × (List Int) × (List Int) × Unit
abbrev Qw.l1.τ : Type := (Int × (List Int) × (List Int) × (List Int) × Unit)
def Qw.l1.r (k : Nat) {ρ : Type} (x : Qw.l1.σ) (kn : Qw.l1.σ → Option ρ) (ke : Qw.l1.τ → Option ρ) : Option ρ :=
 bif (decide (x.2.2.2.2.1 < x.2.2.2.1)) then (bif (decide (((0 : Int) ≤ x.2.2.2.2.1) ∧ (x.2.2.2.2.1 < ((x.2.2.1.2 : Nat) : Int)))) then (let v4 : Int := (List.getD x.2.2.2.2.2.1 (x.2.2.1.1 + (Int.toNat x.2.2.2.2.1)) (0 : Int))
 bif (decide (((0 : Int) ≤ x.1) ∧ (x.1 < ((64 : Nat) : Int)))) then (let v5 : Int := (List.getD x.2.2.2.2.2.2.2.1 (Int.toNat x.1) (0 : Int))
 let v6 : Int := (Q27 IntKind.u32 v5 (8 : Int))
 bif (decide (((0 : Int) ≤ x.1) ∧ (x.1 < ((64 : Nat) : Int)))) then (let v7 : Int := (IntKind.wrap IntKind.i64 (x.2.2.2.2.1 + (1 : Int)))
 kn (x.1, (x.2.1, ((x.2.2.1.1, x.2.2.1.2), (x.2.2.2.1, (v7, (x.2.2.2.2.2.1, (x.2.2.2.2.2.2.1, ((List.set x.2.2.2.2.2.2.2.1 (Int.toNat x.1) (Q0o BinOp.or IntKind.u32 v6 (IntKind.wrap IntKind.u32 v4))), ()))))))))) else (none)) else (none)) else (none)) else (ke (x.2.1, (x.2.2.2.2.2.1, (x.2.2.2.2.2.2.1, (x.2.2.2.2.2.2.2.1, ())))))
def Qw.l1 (k : Nat) : Nat → Qw.l1.σ → Option Qw.l1.τ := Q0Q (Qw.l1.r k)
def Qw.l1.T : StT := ⟨.ptr 0 [] :: us 1 ++ .ptr 1 [] :: .ptr 2 [] :: .dat (.int .i64) :: us 7 ++ .dat (.int .i64) :: us 9 ++ .slr 0 [] :: .dat (.int .i64) :: .dat (.int .i64) :: us 58, [.dat Qgm, .dat Qgk, .dat Qgk]⟩
def Qw.l1.os : List Out := [⟨(.exit 2), [.mask [0, 2, 3, 12], .auto 1], ⟨.ptr 0 [] :: us 1 ++ .ptr 1 [] :: .ptr 2 [] :: us 8 ++ .dat (.int .i64) :: us 70, [.dat Qgm, .dat Qgk, .dat Qgk]⟩⟩]
abbrev Qw.l0.σ : Type := Int × (List Int) × (List Int) × (List Int) × Unit
abbrev Qw.l0.τ : Type := Qgh 
def Qw.l0.r (k : Nat) {ρ : Type} (x : Qw.l0.σ) (kn : Qw.l0.σ → Option ρ) (ke : Qw.l0.τ → Option ρ) : Option ρ :=
 bif (decide (x.1 < (16 : Int))) then (let v0 : Int := (IntKind.wrap IntKind.i64 ((4 : Int) * x.1))
 let v1 : Int := (IntKind.wrap IntKind.i64 (x.1 + (1 : Int)))
 let v2 : Int := (IntKind.wrap IntKind.i64 ((4 : Int) * v1))
 bif (decide (((0 : Int) ≤ v0) ∧ ((v0 ≤ v2) ∧ (v2 ≤ ((64 : Nat) : Int))))) then (let v3 : Int := (((Int.toNat (v2 - v0)) : Nat) : Int)
 (Qw.l1 k k (x.1, (x.1, (((Int.toNat v0), (Int.toNat (v2 - v0))), (v3, ((0 : Int), (x.2.1, (x.2.2.1, (x.2.2.2.1, ()))))))))).bind fun t8 => let v9 : Int := (IntKind.wrap IntKind.i64 (t8.1 + (1 : Int)))
 kn (v9, (t8.2.1, (t8.2.2.1, (t8.2.2.2.1, ()))))) else (none)) else (ke (x.2.1, (x.2.2.1, (x.2.2.2.1, ()))))
def Qw.l0 (k : Nat) : Nat → Qw.l0.σ → Option Qw.l0.τ := Q0Q (Qw.l0.r k)
def Qw.l0.T : StT := ⟨.ptr 0 [] :: us 1 ++ .ptr 1 [] :: .ptr 2 [] :: us 8 ++ .dat (.int .i64) :: us 70, [.dat Qgm, .dat Qgk, .dat Qgk]⟩
def Qw.l0.os : List Out := [⟨(.exit 0), [.mask [2, 3], .auto 1], ⟨us 2 ++ .ptr 1 [] :: .ptr 2 [] :: us 79, [.dat Qgm, .dat Qgk, .dat Qgk]⟩⟩]
abbrev Qw.l2.σ : Type := Int × (List Int) × (List Int) × (List Int) × Unit
abbrev Qw.l2.τ : Type := Qgh 
def Qw.l2.r (k : Nat) {ρ : Type} (x : Qw.l2.σ) (kn : Qw.l2.σ → Option ρ) (ke : Qw.l2.τ → Option ρ) : Option ρ :=
 bif (decide (x.1 < (64 : Int))) then (let v11 : Int := (IntKind.wrap IntKind.i64 (x.1 - (2 : Int)))
 bif (decide (((0 : Int) ≤ v11) ∧ (v11 < ((64 : Nat) : Int)))) then (let v12 : Int := (List.getD x.2.2.2.1 (Int.toNat v11) (0 : Int))
 let v13 : Int := (IntKind.wrap IntKind.i64 (x.1 - (15 : Int)))
 bif (decide (((0 : Int) ≤ v13) ∧ (v13 < ((64 : Nat) : Int)))) then (let v14 : Int := (List.getD x.2.2.2.1 (Int.toNat v13) (0 : Int))
 (Q0D k v12 (17 : Int)).bind fun t15 => (Q0D k v12 (19 : Int)).bind fun t16 => let v17 : Int := (Q0o BinOp.xor IntKind.u32 t15.1 t16.1)
 let v18 : Int := (Q1W IntKind.u32 v12 (10 : Int))
 (Q0D k v14 (7 : Int)).bind fun t19 => (Q0D k v14 (18 : Int)).bind fun t20 => let v21 : Int := (Q0o BinOp.xor IntKind.u32 t19.1 t20.1)
 let v22 : Int := (Q1W IntKind.u32 v14 (3 : Int))
 let v23 : Int := (IntKind.wrap IntKind.i64 (x.1 - (7 : Int)))
 bif (decide (((0 : Int) ≤ v23) ∧ (v23 < ((64 : Nat) : Int)))) then (let v24 : Int := (List.getD x.2.2.2.1 (Int.toNat v23) (0 : Int))
 let v25 : Int := (IntKind.wrap IntKind.u32 ((Q0o BinOp.xor IntKind.u32 v17 v18) + v24))
 let v26 : Int := (IntKind.wrap IntKind.u32 (v25 + (Q0o BinOp.xor IntKind.u32 v21 v22)))
 let v27 : Int := (IntKind.wrap IntKind.i64 (x.1 - (16 : Int)))
 bif (decide (((0 : Int) ≤ v27) ∧ (v27 < ((64 : Nat) : Int)))) then (let v28 : Int := (List.getD x.2.2.2.1 (Int.toNat v27) (0 : Int))
 let v29 : Int := (IntKind.wrap IntKind.u32 (v26 + v28))
 bif (decide (((0 : Int) ≤ x.1) ∧ (x.1 < ((64 : Nat) : Int)))) then (let v30 : Int := (IntKind.wrap IntKind.i64 (x.1 + (1 : Int)))
 kn (v30, (x.2.1, (x.2.2.1, ((List.set x.2.2.2.1 (Int.toNat x.1) v29), ()))))) else (none)) else (none)) else (none)) else (none)) else (none)) else (ke (x.2.1, (x.2.2.1, (x.2.2.2.1, ()))))
def Qw.l2 (k : Nat) : Nat → Qw.l2.σ → Option Qw.l2.τ := Q0Q (Qw.l2.r k)
def Qw.l2.T : StT := ⟨us 2 ++ .ptr 1 [] :: .ptr 2 [] :: us 3 ++ .dat (.int .i64) :: us 75, [.dat Qgm, .dat Qgk, .dat Qgk]⟩
def Qw.l2.os : List Out := [⟨(.exit 4), [.mask [2, 3], .auto 1], ⟨us 2 ++ .ptr 1 [] :: .ptr 2 [] :: us 79, [.dat Qgm, .dat Qgk, .dat Qgk]⟩⟩]
abbrev Qw.τ : Type := ((List Int) × (List Int) × Unit)
def Qw.c (k : Nat) {ρ : Type} (b0 : (List Int)) (K : Qw.τ → Option ρ) : Option ρ :=
 (Qw.l0 k k ((0 : Int), (b0, ((List.replicate 64 (0 : Int)), ((List.replicate 64 (0 : Int)), ()))))).bind fun t10 => (Qw.l2 k k ((16 : Int), (t10.1, (t10.2.1, (t10.2.2.1, ()))))).bind fun t31 => let v32 : (List Int) := t31.2.2.1
 K (v32, (t31.1, ()))
def Qw (k : Nat) (b0 : (List Int)) : Option Qw.τ := Qw.c k b0 some
def Qw.T : Q1F := ⟨[.ptr 0 []], [.dat Qgm], 1⟩
def Qw.os : List Out := [⟨.ret, [.freeze (.slot 0), .auto 1], ⟨[.dat Qgk], [.dat Qgm]⟩⟩]
def Qw.sem (k : Nat) : QY := Q1U Qw.T Qw.os fun x => Qw k x.1
noncomputable def Qw.ctx (k : Nat) : Ctx := ⟨Try.prog, gam [(136, (Q0D.sem k))]⟩
theorem Qw.gok (k : Nat) : ∀ f, QG Try.prog f ((Qw.ctx k).Γ f) := (Qq (Q0D.sem_ok k) Q0e)
theorem Qw.l1.round (k : Nat) : Q0L (Qw.ctx k) (QP (Func.code Try.f134) [1, 1, 0, 1, 0, 0, 1, 1, 0, 0, 1, 1, 0, 0]) (.nil) Qw.l1.T [.mask [0, 2, 3, 4, 12, 22, 23, 24], .auto 1] Qw.l1.os (Qw.l1.r k) := by
 intro ρ x kn ke; kernel_rfl
theorem Qw.l1.ok (k : Nat) : StOK 1 Try.prog (.loop (QP (Func.code Try.f134) [1, 1, 0, 1, 0, 0, 1, 1, 0, 0, 1, 1, 0, 0])) (Qx Qw.l1.T Qw.l1.os (Qw.l1 k k)) :=
 Q0M (C := Qw.ctx k) (Qw.gok k) Try.mix Q3.nil (by kernel_rfl) (by kernel_rfl) (by kernel_rfl) (Qw.l1.round k) k
theorem Qw.l0.round (k : Nat) : Q0L (Qw.ctx k) (QP (Func.code Try.f134) [1, 1, 0, 1, 0, 0]) (.node [] none (.nil) (.node [] none (.nil) (.node [] none (.node [] none (.node [] none (.nil) (.node [] none (.nil) (.node [] none (.node [.mask [0, 2, 3, 4, 12, 22, 23, 24], .auto 1] (some (Qx Qw.l1.T Qw.l1.os (Qw.l1 k k))) .nil .nil) (.nil)))) (.nil)) (.nil)))) Qw.l0.T [.mask [0, 2, 3, 12], .auto 1] Qw.l0.os (Qw.l0.r k) := by
 intro ρ x kn ke; kernel_rfl
theorem Qw.l0.ok (k : Nat) : StOK 1 Try.prog (.loop (QP (Func.code Try.f134) [1, 1, 0, 1, 0, 0])) (Qx Qw.l0.T Qw.l0.os (Qw.l0 k k)) :=
 Q0M (C := Qw.ctx k) (Qw.gok k) Try.mix (Q3.seq Q3.nil (Q3.seq Q3.nil (Q3.seq (Q3.block (Q3.seq Q3.nil (Q3.seq Q3.nil (Q3.block (Q3.loop (by kernel_rfl) (Qw.l1.ok k)))))) Q3.nil))) (by kernel_rfl) (by kernel_rfl) (by kernel_rfl) (Qw.l0.round k) k
theorem Qw.l2.round (k : Nat) : Q0L (Qw.ctx k) (QP (Func.code Try.f134) [1, 1, 1, 0, 1, 0, 0]) (.nil) Qw.l2.T [.mask [2, 3, 7], .auto 1] Qw.l2.os (Qw.l2.r k) := by
 intro ρ x kn ke; kernel_rfl
theorem Qw.l2.ok (k : Nat) : StOK 1 Try.prog (.loop (QP (Func.code Try.f134) [1, 1, 1, 0, 1, 0, 0])) (Qx Qw.l2.T Qw.l2.os (Qw.l2 k k)) :=
 Q0M (C := Qw.ctx k) (Qw.gok k) Try.mix Q3.nil (by kernel_rfl) (by kernel_rfl) (by kernel_rfl) (Qw.l2.round k) k
def Qw.ann (k : Nat) : Ann := .node [] none (.nil) (.node [] none (.nil) (.node [] none (.node [] none (.nil) (.node [] none (.node [.mask [0, 2, 3, 12], .auto 1] (some (Qx Qw.l0.T Qw.l0.os (Qw.l0 k k))) .nil .nil) (.nil))) (.node [] none (.node [] none (.nil) (.node [] none (.node [.mask [2, 3, 7], .auto 1] (some (Qx Qw.l2.T Qw.l2.os (Qw.l2 k k))) .nil .nil) (.nil))) (.nil))))
theorem Qw.body (k : Nat) : Q1S (Qw.ctx k) Try.f134 (Func.code Try.f134) (Qw.ann k) Qw.T Qw.os (fun x K => Qw.c k x.1 K) := by
 intro ρ x K; kernel_rfl
theorem Qw.sem_ok (k : Nat) : QG Try.prog 134 (Qw.sem k) :=
 Q1c (C := Qw.ctx k) (Qw.gok k) Try.mix (c := Func.code Try.f134) (ann := Qw.ann k) (T := Qw.T) (os := Qw.os) (fun x K => Qw.c k x.1 K) Try.func134 (by kernel_rfl) (by kernel_rfl) (Q3.seq Q3.nil (Q3.seq Q3.nil (Q3.seq (Q3.seq Q3.nil (Q3.block (Q3.loop (by kernel_rfl) (Qw.l0.ok k)))) (Q3.seq (Q3.seq Q3.nil (Q3.block (Q3.loop (by kernel_rfl) (Qw.l2.ok k)))) Q3.nil)))) (Qw.body k) (by kernel_rfl) (by kernel_rfl) (by kernel_rfl)
abbrev Q0w.τ : Type := ((List Int) × Unit)
def Q0w.c (k : Nat) {ρ : Type}  (K : Q0w.τ → Option ρ) : Option ρ :=
 let v0 : (List Int) := (List.set (List.set (List.set (List.set (List.set (List.set (List.set (List.set (List.set (List.set (List.set (List.set (List.set (List.set (List.set (List.set (List.set (List.set (List.set (List.set (List.set (List.set (List.set (List.set (List.set (List.set (List.set (List.set (List.set (List.set (List.set (List.set (List.set (List.set (List.set (List.set (List.set (List.set (List.set (List.set (List.set (List.set (List.set (List.set (List.set (List.set (List.set (List.set (List.set (List.set (List.set (List.set (List.set (List.set (List.set (List.set (List.set (List.set (List.set (List.set (List.set (List.set (List.set (List.set (List.replicate 64 (0 : Int)) 0 (1116352408 : Int)) 1 (1899447441 : Int)) 2 (3049323471 : Int)) 3 (3921009573 : Int)) 4 (961987163 : Int)) 5 (1508970993 : Int)) 6 (2453635748 : Int)) 7 (2870763221 : Int)) 8 (3624381080 : Int)) 9 (310598401 : Int)) 10 (607225278 : Int)) 11 (1426881987 : Int)) 12 (1925078388 : Int)) 13 (2162078206 : Int)) 14 (2614888103 : Int)) 15 (3248222580 : Int)) 16 (3835390401 : Int)) 17 (4022224774 : Int)) 18 (264347078 : Int)) 19 (604807628 : Int)) 20 (770255983 : Int)) 21 (1249150122 : Int)) 22 (1555081692 : Int)) 23 (1996064986 : Int)) 24 (2554220882 : Int)) 25 (2821834349 : Int)) 26 (2952996808 : Int)) 27 (3210313671 : Int)) 28 (3336571891 : Int)) 29 (3584528711 : Int)) 30 (113926993 : Int)) 31 (338241895 : Int)) 32 (666307205 : Int)) 33 (773529912 : Int)) 34 (1294757372 : Int)) 35 (1396182291 : Int)) 36 (1695183700 : Int)) 37 (1986661051 : Int)) 38 (2177026350 : Int)) 39 (2456956037 : Int)) 40 (2730485921 : Int)) 41 (2820302411 : Int)) 42 (3259730800 : Int)) 43 (3345764771 : Int)) 44 (3516065817 : Int)) 45 (3600352804 : Int)) 46 (4094571909 : Int)) 47 (275423344 : Int)) 48 (430227734 : Int)) 49 (506948616 : Int)) 50 (659060556 : Int)) 51 (883997877 : Int)) 52 (958139571 : Int)) 53 (1322822218 : Int)) 54 (1537002063 : Int)) 55 (1747873779 : Int)) 56 (1955562222 : Int)) 57 (2024104815 : Int)) 58 (2227730452 : Int)) 59 (2361852424 : Int)) 60 (2428436474 : Int)) 61 (2756734187 : Int)) 62 (3204031479 : Int)) 63 (3329325298 : Int))
 K (v0, ())
def Q0w (k : Nat)  : Option Q0w.τ := Q0w.c k  some
def Q0w.T : Q1F := ⟨[], [], 0⟩
def Q0w.os : List Out := [⟨.ret, [.auto 0], ⟨[.ptr 0 []], [.dat Qgk]⟩⟩]
def Q0w.sem (k : Nat) : QY := Q1U Q0w.T Q0w.os fun x => Q0w k 
noncomputable def Q0w.ctx (k : Nat) : Ctx := ⟨Try.prog, gam []⟩
theorem Q0w.gok (k : Nat) : ∀ f, QG Try.prog f ((Q0w.ctx k).Γ f) := Q0e
def Q0w.ann (k : Nat) : Ann := .nil
theorem Q0w.body (k : Nat) : Q1S (Q0w.ctx k) Try.f135 (Func.code Try.f135) (Q0w.ann k) Q0w.T Q0w.os (fun x K => Q0w.c k  K) := by
 intro ρ x K; kernel_rfl
theorem Q0w.sem_ok (k : Nat) : QG Try.prog 135 (Q0w.sem k) :=
 Q1c (C := Q0w.ctx k) (Q0w.gok k) Try.mix (c := Func.code Try.f135) (ann := Q0w.ann k) (T := Q0w.T) (os := Q0w.os) (fun x K => Q0w.c k  K) Try.func135 (by kernel_rfl) (by kernel_rfl) Q3.nil (Q0w.body k) (by kernel_rfl) (by kernel_rfl) (by kernel_rfl)
abbrev QX.l0.σ : Type := Int × (List Int) × (List Int) × (List Int) × (List Int) × (List Int) × Unit
abbrev QX.l0.τ : Type := Qgh 
def QX.l0.r (k : Nat) {ρ : Type} (x : QX.l0.σ) (kn : QX.l0.σ → Option ρ) (ke : QX.l0.τ → Option ρ) : Option ρ :=
 bif (decide (x.1 < (64 : Int))) then (let v2 : Int := (List.getD x.2.2.2.2.2.1 0 (0 : Int))
 let v3 : Int := (List.getD x.2.2.2.2.2.1 4 (0 : Int))
 (Q0D k v3 (6 : Int)).bind fun t4 => (Q0D k v3 (11 : Int)).bind fun t5 => let v6 : Int := (Q0o BinOp.xor IntKind.u32 t4.1 t5.1)
 (Q0D k v3 (25 : Int)).bind fun t7 => let v8 : Int := (Q0o BinOp.xor IntKind.u32 v6 t7.1)
 (Q0D k v2 (2 : Int)).bind fun t9 => (Q0D k v2 (13 : Int)).bind fun t10 => let v11 : Int := (Q0o BinOp.xor IntKind.u32 t9.1 t10.1)
 (Q0D k v2 (22 : Int)).bind fun t12 => let v13 : Int := (Q0o BinOp.xor IntKind.u32 v11 t12.1)
 let v14 : Int := (List.getD x.2.2.2.2.2.1 5 (0 : Int))
 let v15 : Int := (List.getD x.2.2.2.2.2.1 6 (0 : Int))
 let v16 : Int := (Q0o BinOp.xor IntKind.u32 (Q0o BinOp.and IntKind.u32 v3 v14) (Q0o BinOp.and IntKind.u32 (notI IntKind.u32 v3) v15))
 let v17 : Int := (List.getD x.2.2.2.2.2.1 1 (0 : Int))
 let v18 : Int := (List.getD x.2.2.2.2.2.1 2 (0 : Int))
 let v19 : Int := (Q0o BinOp.xor IntKind.u32 (Q0o BinOp.and IntKind.u32 v2 v17) (Q0o BinOp.and IntKind.u32 v2 v18))
 let v20 : Int := (List.getD x.2.2.2.2.2.1 1 (0 : Int))
 let v21 : Int := (List.getD x.2.2.2.2.2.1 2 (0 : Int))
 let v22 : Int := (Q0o BinOp.xor IntKind.u32 v19 (Q0o BinOp.and IntKind.u32 v20 v21))
 let v23 : Int := (List.getD x.2.2.2.2.2.1 7 (0 : Int))
 let v24 : Int := (IntKind.wrap IntKind.u32 (v23 + v8))
 let v25 : Int := (IntKind.wrap IntKind.u32 (v24 + v16))
 bif (decide (((0 : Int) ≤ x.1) ∧ (x.1 < ((64 : Nat) : Int)))) then (let v26 : Int := (List.getD x.2.2.2.2.1 (Int.toNat x.1) (0 : Int))
 let v27 : Int := (IntKind.wrap IntKind.u32 (v25 + v26))
 bif (decide (((0 : Int) ≤ x.1) ∧ (x.1 < ((64 : Nat) : Int)))) then (let v28 : Int := (List.getD x.2.2.2.1 (Int.toNat x.1) (0 : Int))
 let v29 : Int := (IntKind.wrap IntKind.u32 (v27 + v28))
 let v30 : Int := (IntKind.wrap IntKind.u32 (v29 + v13))
 let v31 : Int := (IntKind.wrap IntKind.u32 (v30 + v22))
 let v32 : Int := (List.getD x.2.2.2.2.2.1 0 (0 : Int))
 let v33 : Int := (List.getD x.2.2.2.2.2.1 1 (0 : Int))
 let v34 : Int := (List.getD x.2.2.2.2.2.1 2 (0 : Int))
 let v35 : Int := (List.getD x.2.2.2.2.2.1 3 (0 : Int))
 let v36 : Int := (IntKind.wrap IntKind.u32 (v35 + v29))
 let v37 : Int := (List.getD x.2.2.2.2.2.1 4 (0 : Int))
 let v38 : Int := (List.getD x.2.2.2.2.2.1 5 (0 : Int))
 let v39 : Int := (List.getD x.2.2.2.2.2.1 6 (0 : Int))
 let v40 : (List Int) := (List.set (List.set (List.set (List.set (List.set (List.set (List.set (List.set (List.replicate 8 (0 : Int)) 0 v31) 1 v32) 2 v33) 3 v34) 4 v36) 5 v37) 6 v38) 7 v39)
 let v41 : Int := (IntKind.wrap IntKind.i64 (x.1 + (1 : Int)))
 kn (v41, (x.2.1, (x.2.2.1, (x.2.2.2.1, (x.2.2.2.2.1, (v40, ()))))))) else (none)) else (none)) else (ke (x.2.1, (x.2.2.1, (x.2.2.2.2.2.1, ()))))
def QX.l0 (k : Nat) : Nat → QX.l0.σ → Option QX.l0.τ := Q0Q (QX.l0.r k)
def QX.l0.T : StT := ⟨us 2 ++ .ptr 0 [] :: us 1 ++ .ptr 1 [] :: .ptr 2 [] :: .ptr 3 [] :: .ptr 4 [] :: us 12 ++ .dat (.int .i64) :: us 99, [.dat Qgl, .dat Qgl, .dat Qgk, .dat Qgk, .dat Qgl]⟩
def QX.l0.os : List Out := [⟨(.exit 0), [.mask [2, 4, 7], .auto 0], ⟨us 2 ++ .ptr 0 [] :: us 1 ++ .ptr 1 [] :: us 2 ++ .ptr 2 [] :: us 112, [.dat Qgl, .dat Qgl, .dat Qgl]⟩⟩]
abbrev QX.l1.σ : Type := Int × (List Int) × (List Int) × (List Int) × Unit
abbrev QX.l1.τ : Type := ((List Int) × (List Int) × Unit)
def QX.l1.r (k : Nat) {ρ : Type} (x : QX.l1.σ) (kn : QX.l1.σ → Option ρ) (ke : QX.l1.τ → Option ρ) : Option ρ :=
 bif (decide (x.1 < (8 : Int))) then (bif (decide (((0 : Int) ≤ x.1) ∧ (x.1 < ((8 : Nat) : Int)))) then (let v43 : Int := (List.getD x.2.2.2.1 (Int.toNat x.1) (0 : Int))
 bif (decide (((0 : Int) ≤ x.1) ∧ (x.1 < ((8 : Nat) : Int)))) then (let v44 : Int := (List.getD x.2.1 (Int.toNat x.1) (0 : Int))
 let v45 : Int := (IntKind.wrap IntKind.u32 (v43 + v44))
 bif (decide (((0 : Int) ≤ x.1) ∧ (x.1 < ((8 : Nat) : Int)))) then (let v46 : Int := (IntKind.wrap IntKind.i64 (x.1 + (1 : Int)))
 kn (v46, (x.2.1, (x.2.2.1, ((List.set x.2.2.2.1 (Int.toNat x.1) v45), ()))))) else (none)) else (none)) else (none)) else (ke (x.2.2.1, (x.2.2.2.1, ())))
def QX.l1 (k : Nat) : Nat → QX.l1.σ → Option QX.l1.τ := Q0Q (QX.l1.r k)
def QX.l1.T : StT := ⟨us 2 ++ .ptr 0 [] :: us 1 ++ .ptr 1 [] :: us 2 ++ .ptr 2 [] :: us 99 ++ .dat (.int .i64) :: us 12, [.dat Qgl, .dat Qgl, .dat Qgl]⟩
def QX.l1.os : List Out := [⟨(.exit 2), [.mask [4, 7], .auto 0], ⟨us 4 ++ .ptr 0 [] :: us 2 ++ .ptr 1 [] :: us 112, [.dat Qgl, .dat Qgl]⟩⟩]
def QX.c (k : Nat) {ρ : Type} (x_0 : (List Int)) (block : (List Int)) (K : (List Int) × Unit → Option ρ) : Option ρ :=
 (Qw k block).bind fun t0 => (Q0w k ).bind fun t1 => (QX.l0 k k ((0 : Int), (x_0, ((List.replicate 8 (0 : Int)), (t0.1, (t1.1, (x_0, ()))))))).bind fun t42 => (QX.l1 k k ((0 : Int), (t42.1, (t42.2.1, (t42.2.2.1, ()))))).bind fun t47 => let v48 : (List Int) := t47.2.1
 K (v48, ())
def QX (k : Nat) (x_0 : (List Int)) (block : (List Int)) : Option ((List Int) × Unit) := QX.c k x_0 block some
def QX.tin : List Ty := [Qgl, Qgm]
def QX.tout : List Ty := [Qgl]
def QX.sem (k : Nat) : QY := Q04 QX.tin QX.tout fun x => QX k x.1 x.2.1
noncomputable def QX.ctx (k : Nat) : Ctx := ⟨Try.prog, gam [(134, (Qw.sem k)), (135, (Q0w.sem k)), (136, (Q0D.sem k))]⟩
theorem QX.gok (k : Nat) : ∀ f, QG Try.prog f ((QX.ctx k).Γ f) := (Qq (Qw.sem_ok k) (Qq (Q0w.sem_ok k) (Qq (Q0D.sem_ok k) Q0e)))
theorem QX.l0.round (k : Nat) : Q0L (QX.ctx k) (QP (Func.code Try.f129) [1, 1, 1, 0, 1, 0, 0]) (.nil) QX.l0.T [.mask [2, 4, 5, 6, 7, 20], .auto 0] QX.l0.os (QX.l0.r k) := by
 intro ρ x kn ke; kernel_rfl
theorem QX.l0.ok (k : Nat) : StOK 0 Try.prog (.loop (QP (Func.code Try.f129) [1, 1, 1, 0, 1, 0, 0])) (Qx QX.l0.T QX.l0.os (QX.l0 k k)) :=
 Q0M (C := QX.ctx k) (QX.gok k) Try.mix Q3.nil (by kernel_rfl) (by kernel_rfl) (by kernel_rfl) (QX.l0.round k) k
theorem QX.l1.round (k : Nat) : Q0L (QX.ctx k) (QP (Func.code Try.f129) [1, 1, 1, 1, 0, 1, 0, 0]) (.nil) QX.l1.T [.mask [2, 4, 7, 107], .auto 0] QX.l1.os (QX.l1.r k) := by
 intro ρ x kn ke; kernel_rfl
theorem QX.l1.ok (k : Nat) : StOK 0 Try.prog (.loop (QP (Func.code Try.f129) [1, 1, 1, 1, 0, 1, 0, 0])) (Qx QX.l1.T QX.l1.os (QX.l1 k k)) :=
 Q0M (C := QX.ctx k) (QX.gok k) Try.mix Q3.nil (by kernel_rfl) (by kernel_rfl) (by kernel_rfl) (QX.l1.round k) k
def QX.ann (k : Nat) : Ann := .node [] none (.nil) (.node [] none (.nil) (.node [] none (.nil) (.node [] none (.node [] none (.nil) (.node [] none (.node [.mask [2, 4, 5, 6, 7, 20], .auto 0] (some (Qx QX.l0.T QX.l0.os (QX.l0 k k))) .nil .nil) (.nil))) (.node [] none (.node [] none (.nil) (.node [] none (.node [.mask [2, 4, 7, 107], .auto 0] (some (Qx QX.l1.T QX.l1.os (QX.l1 k k))) .nil .nil) (.nil))) (.nil)))))
theorem QX.body (k : Nat) : Q0K (QX.ctx k) Try.f129 (Func.code Try.f129) (QX.ann k) QX.tin QX.tout (fun x K => QX.c k x.1 x.2.1 K) := by
 intro ρ x K; kernel_rfl
theorem QX.sem_ok (k : Nat) : QG Try.prog 129 (QX.sem k) :=
 QT (C := QX.ctx k) (QX.gok k) Try.mix (c := Func.code Try.f129) (ann := QX.ann k) (tin := QX.tin) (tout := QX.tout) (fun x K => QX.c k x.1 x.2.1 K) Try.func129 (by kernel_rfl) (by kernel_rfl) (Q3.seq Q3.nil (Q3.seq Q3.nil (Q3.seq Q3.nil (Q3.seq (Q3.seq Q3.nil (Q3.block (Q3.loop (by kernel_rfl) (QX.l0.ok k)))) (Q3.seq (Q3.seq Q3.nil (Q3.block (Q3.loop (by kernel_rfl) (QX.l1.ok k)))) Q3.nil))))) (QX.body k)
abbrev Qr.l0.σ : Type := Qgi × (List Int) × Unit
abbrev Qr.l0.τ : Type := Qgg 
def Qr.l0.r (k : Nat) {ρ : Type} (x : Qr.l0.σ) (kn : Qr.l0.σ → Option ρ) (ke : Qr.l0.τ → Option ρ) : Option ρ :=
 let v2 : Int := (((List.length x.2.1) : Nat) : Int)
 bif (decide (v2 ≥ (64 : Int))) then (let v3 : (List Int) := x.1.1
 bif (decide (64 ≤ (List.length x.2.1))) then (let v4 : (List Int) := (List.take 64 (List.drop 0 x.2.1))
 (QX k v3 v4).bind fun t5 => bif (decide (((0 : Int) ≤ (64 : Int)) ∧ (((64 : Int) ≤ (((List.length x.2.1) : Nat) : Int)) ∧ ((((List.length x.2.1) : Nat) : Int) ≤ (((List.length x.2.1) : Nat) : Int))))) then (kn ((t5.1, ((), (x.1.2.2.1, ()))), ((List.take (Int.toNat ((((List.length x.2.1) : Nat) : Int) - (64 : Int))) (List.drop 64 x.2.1)), ()))) else (none)) else (none)) else (ke ((x.1.1, ((), (x.1.2.2.1, ()))), (x.2.1, ())))
def Qr.l0 (k : Nat) : Nat → Qr.l0.σ → Option Qr.l0.τ := Q0Q (Qr.l0.r k)
def Qr.l0.T : StT := ⟨.ptr 0 [] :: us 52, [.pair (.dat Qgl) (.pair (.vsl 1) (.dat Qgj)), .vec (.int .u8)]⟩
def Qr.l0.os : List Out := [⟨(.exit 0), [.mask [], .auto 1], ⟨us 53, [.pair (.dat Qgl) (.pair (.vsl 1) (.dat Qgj)), .vec (.int .u8)]⟩⟩]
abbrev Qr.τ : Type := Qgg 
def Qr.c (k : Nat) {ρ : Type} (s : ByteArray) (b0 : Qgi) (K : Qr.τ → Option ρ) : Option ρ :=
 let v0 : Int := b0.2.2.1
 let v1 : Int := (IntKind.wrap IntKind.u64 (v0 + (IntKind.wrap IntKind.u64 (((ByteArray.size s) : Nat) : Int))))
 bif (Nat.ble ((List.length (QB s)) * 1) 140737488355328) then ((Qr.l0 k k ((b0.1, ((), (v1, ()))), ((QB s), ()))).bind fun t6 => K ((t6.1.1, ((), (t6.1.2.2.1, ()))), (t6.2.1, ()))) else (none)
def Qr (k : Nat) (s : ByteArray) (b0 : Qgi) : Option Qr.τ := Qr.c k s b0 some
def Qr.T : Q1F := ⟨[.ptr 0 [], .dat .str], [.pair (.dat Qgl) (.pair (.nils) (.dat Qgj))], 1⟩
def Qr.os : List Out := [⟨.ret, [.auto 1], ⟨[], [.pair (.dat Qgl) (.pair (.vsl 1) (.dat Qgj)), .vec (.int .u8)]⟩⟩]
def Qr.sem (k : Nat) : QY := Q1U Qr.T Qr.os fun x => Qr k x.1 x.2.1
noncomputable def Qr.ctx (k : Nat) : Ctx := ⟨Try.prog, gam [(129, (QX.sem k))]⟩
theorem Qr.gok (k : Nat) : ∀ f, QG Try.prog f ((Qr.ctx k).Γ f) := (Qq (QX.sem_ok k) Q0e)
theorem Qr.l0.round (k : Nat) : Q0L (Qr.ctx k) (QP (Func.code Try.f118) [1, 1, 1, 0, 0]) (.nil) Qr.l0.T [.mask [0], .auto 1] Qr.l0.os (Qr.l0.r k) := by
 intro ρ x kn ke; kernel_rfl
theorem Qr.l0.ok (k : Nat) : StOK 1 Try.prog (.loop (QP (Func.code Try.f118) [1, 1, 1, 0, 0])) (Qx Qr.l0.T Qr.l0.os (Qr.l0 k k)) :=
 Q0M (C := Qr.ctx k) (Qr.gok k) Try.mix Q3.nil (by kernel_rfl) (by kernel_rfl) (by kernel_rfl) (Qr.l0.round k) k
def Qr.ann (k : Nat) : Ann := .node [] none (.nil) (.node [] none (.nil) (.node [] none (.nil) (.node [] none (.node [.mask [0], .auto 1] (some (Qx Qr.l0.T Qr.l0.os (Qr.l0 k k))) .nil .nil) (.nil))))
theorem Qr.body (k : Nat) : Q1S (Qr.ctx k) Try.f118 (Func.code Try.f118) (Qr.ann k) Qr.T Qr.os (fun x K => Qr.c k x.1 x.2.1 K) := by
 intro ρ x K; kernel_rfl
theorem Qr.sem_ok (k : Nat) : QG Try.prog 118 (Qr.sem k) :=
 Q1c (C := Qr.ctx k) (Qr.gok k) Try.mix (c := Func.code Try.f118) (ann := Qr.ann k) (T := Qr.T) (os := Qr.os) (fun x K => Qr.c k x.1 x.2.1 K) Try.func118 (by kernel_rfl) (by kernel_rfl) (Q3.seq Q3.nil (Q3.seq Q3.nil (Q3.seq Q3.nil (Q3.block (Q3.loop (by kernel_rfl) (Qr.l0.ok k)))))) (Qr.body k) (by kernel_rfl) (by kernel_rfl) (by kernel_rfl)
abbrev Q09.τ : Type := (Qgi × (List Int) × Qgi × (List Int) × Unit)
def Q09.c (k : Nat) {ρ : Type} (b0 : Qgi) (b1 : (List Int)) (K : Q09.τ → Option ρ) : Option ρ :=
 let v0 : (List Int) := b0.1
 bif (Nat.ble ((List.length b1) * 1) 140737488355328) then (let v1 : Int := b0.2.2.1
 K ((b0.1, ((), (b0.2.2.1, ()))), (b1, ((v0, ((), (v1, ()))), (b1, ()))))) else (none)
def Q09 (k : Nat) (b0 : Qgi) (b1 : (List Int)) : Option Q09.τ := Q09.c k b0 b1 some
def Q09.T : Q1F := ⟨[.ptr 0 []], [.pair (.dat Qgl) (.pair (.vsl 1) (.dat Qgj)), .vec (.int .u8)], 1⟩
def Q09.os : List Out := [⟨.ret, [.auto 1], ⟨[.ptr 2 []], [.pair (.dat Qgl) (.pair (.vsl 1) (.dat Qgj)), .vec (.int .u8), .pair (.dat Qgl) (.pair (.vsl 3) (.dat Qgj)), .vec (.int .u8)]⟩⟩]
def Q09.sem (k : Nat) : QY := Q1U Q09.T Q09.os fun x => Q09 k x.1 x.2.1
noncomputable def Q09.ctx (k : Nat) : Ctx := ⟨Try.prog, gam []⟩
theorem Q09.gok (k : Nat) : ∀ f, QG Try.prog f ((Q09.ctx k).Γ f) := Q0e
def Q09.ann (k : Nat) : Ann := .nil
theorem Q09.body (k : Nat) : Q1S (Q09.ctx k) Try.f130 (Func.code Try.f130) (Q09.ann k) Q09.T Q09.os (fun x K => Q09.c k x.1 x.2.1 K) := by
 intro ρ x K; kernel_rfl
theorem Q09.sem_ok (k : Nat) : QG Try.prog 130 (Q09.sem k) :=
 Q1c (C := Q09.ctx k) (Q09.gok k) Try.mix (c := Func.code Try.f130) (ann := Q09.ann k) (T := Q09.T) (os := Q09.os) (fun x K => Q09.c k x.1 x.2.1 K) Try.func130 (by kernel_rfl) (by kernel_rfl) Q3.nil (Q09.body k) (by kernel_rfl) (by kernel_rfl) (by kernel_rfl)
abbrev Q0E.l0.σ : Type := Int × Int × (List Int) × Unit
abbrev Q0E.l0.τ : Type := ((List Int) × Unit)
def Q0E.l0.r (k : Nat) {ρ : Type} (x : Q0E.l0.σ) (kn : Q0E.l0.σ → Option ρ) (ke : Q0E.l0.τ → Option ρ) : Option ρ :=
 bif (decide (x.2.1 < (8 : Int))) then (let v5 : Int := (Q27 IntKind.u64 x.1 (3 : Int))
 let v6 : Int := (IntKind.wrap IntKind.i64 ((7 : Int) - x.2.1))
 let v7 : Int := (IntKind.wrap IntKind.i64 ((8 : Int) * v6))
 bif (decide ((0 : Int) ≤ v7)) then (bif (Nat.ble (((List.length x.2.2.1) + (List.length (List.set (List.replicate 1 (0 : Int)) 0 (IntKind.wrap IntKind.u8 (Q1W IntKind.u64 v5 v7))))) * 1) 140737488355328) then (let v8 : Int := (IntKind.wrap IntKind.i64 (x.2.1 + (1 : Int)))
 kn (x.1, (v8, ((x.2.2.1 ++ (List.set (List.replicate 1 (0 : Int)) 0 (IntKind.wrap IntKind.u8 (Q1W IntKind.u64 v5 v7)))), ())))) else (none)) else (none)) else (ke (x.2.2.1, ()))
def Q0E.l0 (k : Nat) : Nat → Q0E.l0.σ → Option Q0E.l0.τ := Q0Q (Q0E.l0.r k)
def Q0E.l0.T : StT := ⟨.dat (.int .u64) :: us 3 ++ .vsl 0 :: us 14 ++ .dat (.int .i64) :: us 15, [.vec (.int .u8)]⟩
def Q0E.l0.os : List Out := [⟨(.exit 0), [.mask [4], .auto 0], ⟨us 4 ++ .vsl 0 :: us 30, [.vec (.int .u8)]⟩⟩]
def Q0E.c (k : Nat) {ρ : Type} (n : Int) (K : ByteArray × Unit → Option ρ) : Option ρ :=
 let v0 : Int := (IntKind.wrap IntKind.i64 (Int.tmod n (64 : Int)))
 let v1 : Int := (IntKind.wrap IntKind.i64 ((119 : Int) - v0))
 let v2 : Int := (IntKind.wrap IntKind.i64 ((1 : Int) + (Int.tmod v1 (64 : Int))))
 let v3 : Int := (IntKind.wrap IntKind.i64 ((1 : Int) + (Int.tmod v1 (64 : Int))))
 let v4 : Int := (IntKind.wrap IntKind.i64 (v3 + (8 : Int)))
 bif ((decide (((0 : Int) ≤ v2) ∧ (v2 ≤ v4))) && (Nat.ble ((Int.toNat v4) * 1) 140737488355328)) then (bif (decide (((0 : Int) ≤ (0 : Int)) ∧ ((0 : Int) < (((List.length (List.replicate (Int.toNat v2) (0 : Int))) : Nat) : Int)))) then ((Q0E.l0 k k (n, ((0 : Int), ((List.set (List.replicate (Int.toNat v2) (0 : Int)) 0 (128 : Int)), ())))).bind fun t9 => K ((bytesOf t9.1), ())) else (none)) else (none)
def Q0E (k : Nat) (n : Int) : Option (ByteArray × Unit) := Q0E.c k n some
def Q0E.tin : List Ty := [(.int .u64)]
def Q0E.tout : List Ty := [.str]
def Q0E.sem (k : Nat) : QY := Q04 Q0E.tin Q0E.tout fun x => Q0E k x.1
noncomputable def Q0E.ctx (k : Nat) : Ctx := ⟨Try.prog, gam []⟩
theorem Q0E.gok (k : Nat) : ∀ f, QG Try.prog f ((Q0E.ctx k).Γ f) := Q0e
theorem Q0E.l0.round (k : Nat) : Q0L (Q0E.ctx k) (QP (Func.code Try.f131) [1, 1, 1, 1, 0, 1, 0, 0]) (.nil) Q0E.l0.T [.mask [0, 4, 19], .auto 0] Q0E.l0.os (Q0E.l0.r k) := by
 intro ρ x kn ke; kernel_rfl
theorem Q0E.l0.ok (k : Nat) : StOK 0 Try.prog (.loop (QP (Func.code Try.f131) [1, 1, 1, 1, 0, 1, 0, 0])) (Qx Q0E.l0.T Q0E.l0.os (Q0E.l0 k k)) :=
 Q0M (C := Q0E.ctx k) (Q0E.gok k) Try.mix Q3.nil (by kernel_rfl) (by kernel_rfl) (by kernel_rfl) (Q0E.l0.round k) k
def Q0E.ann (k : Nat) : Ann := .node [] none (.nil) (.node [] none (.nil) (.node [] none (.nil) (.node [] none (.nil) (.node [] none (.node [] none (.nil) (.node [] none (.node [.mask [0, 4, 19], .auto 0] (some (Qx Q0E.l0.T Q0E.l0.os (Q0E.l0 k k))) .nil .nil) (.nil))) (.nil)))))
theorem Q0E.body (k : Nat) : Q0K (Q0E.ctx k) Try.f131 (Func.code Try.f131) (Q0E.ann k) Q0E.tin Q0E.tout (fun x K => Q0E.c k x.1 K) := by
 intro ρ x K; kernel_rfl
theorem Q0E.sem_ok (k : Nat) : QG Try.prog 131 (Q0E.sem k) :=
 QT (C := Q0E.ctx k) (Q0E.gok k) Try.mix (c := Func.code Try.f131) (ann := Q0E.ann k) (tin := Q0E.tin) (tout := Q0E.tout) (fun x K => Q0E.c k x.1 K) Try.func131 (by kernel_rfl) (by kernel_rfl) (Q3.seq Q3.nil (Q3.seq Q3.nil (Q3.seq Q3.nil (Q3.seq Q3.nil (Q3.seq (Q3.seq Q3.nil (Q3.block (Q3.loop (by kernel_rfl) (Q0E.l0.ok k)))) Q3.nil))))) (Q0E.body k)
abbrev Qm.l0.σ : Type := Qgi × (List Int) × Unit
abbrev Qm.l0.τ : Type := Qgg 
def Qm.l0.r (k : Nat) {ρ : Type} (x : Qm.l0.σ) (kn : Qm.l0.σ → Option ρ) (ke : Qm.l0.τ → Option ρ) : Option ρ :=
 let v2 : Int := (((List.length x.2.1) : Nat) : Int)
 bif (decide (v2 ≥ (64 : Int))) then (let v3 : (List Int) := x.1.1
 bif (decide (64 ≤ (List.length x.2.1))) then (let v4 : (List Int) := (List.take 64 (List.drop 0 x.2.1))
 (QX k v3 v4).bind fun t5 => bif (decide (((0 : Int) ≤ (64 : Int)) ∧ (((64 : Int) ≤ (((List.length x.2.1) : Nat) : Int)) ∧ ((((List.length x.2.1) : Nat) : Int) ≤ (((List.length x.2.1) : Nat) : Int))))) then (kn ((t5.1, ((), (x.1.2.2.1, ()))), ((List.take (Int.toNat ((((List.length x.2.1) : Nat) : Int) - (64 : Int))) (List.drop 64 x.2.1)), ()))) else (none)) else (none)) else (ke ((x.1.1, ((), (x.1.2.2.1, ()))), (x.2.1, ())))
def Qm.l0 (k : Nat) : Nat → Qm.l0.σ → Option Qm.l0.τ := Q0Q (Qm.l0.r k)
def Qm.l0.T : StT := ⟨.ptr 0 [] :: us 52, [.pair (.dat Qgl) (.pair (.vsl 1) (.dat Qgj)), .vec (.int .u8)]⟩
def Qm.l0.os : List Out := [⟨(.exit 0), [.mask [], .auto 1], ⟨us 53, [.pair (.dat Qgl) (.pair (.vsl 1) (.dat Qgj)), .vec (.int .u8)]⟩⟩]
abbrev Qm.τ : Type := Qgg 
def Qm.c (k : Nat) {ρ : Type} (s : ByteArray) (b0 : Qgi) (b1 : (List Int)) (K : Qm.τ → Option ρ) : Option ρ :=
 let v0 : Int := b0.2.2.1
 let v1 : Int := (IntKind.wrap IntKind.u64 (v0 + (IntKind.wrap IntKind.u64 (((ByteArray.size s) : Nat) : Int))))
 bif (Nat.ble (((List.length b1) + (List.length (QB s))) * 1) 140737488355328) then ((Qm.l0 k k ((b0.1, ((), (v1, ()))), ((b1 ++ (QB s)), ()))).bind fun t6 => K ((t6.1.1, ((), (t6.1.2.2.1, ()))), (t6.2.1, ()))) else (none)
def Qm (k : Nat) (s : ByteArray) (b0 : Qgi) (b1 : (List Int)) : Option Qm.τ := Qm.c k s b0 b1 some
def Qm.T : Q1F := ⟨[.ptr 0 [], .dat .str], [.pair (.dat Qgl) (.pair (.vsl 1) (.dat Qgj)), .vec (.int .u8)], 1⟩
def Qm.os : List Out := [⟨.ret, [.auto 1], ⟨[], [.pair (.dat Qgl) (.pair (.vsl 1) (.dat Qgj)), .vec (.int .u8)]⟩⟩]
def Qm.sem (k : Nat) : QY := Q1U Qm.T Qm.os fun x => Qm k x.1 x.2.1 x.2.2.1
noncomputable def Qm.ctx (k : Nat) : Ctx := ⟨Try.prog, gam [(129, (QX.sem k))]⟩
theorem Qm.gok (k : Nat) : ∀ f, QG Try.prog f ((Qm.ctx k).Γ f) := (Qq (QX.sem_ok k) Q0e)
theorem Qm.l0.round (k : Nat) : Q0L (Qm.ctx k) (QP (Func.code Try.f118) [1, 1, 1, 0, 0]) (.nil) Qm.l0.T [.mask [0], .auto 1] Qm.l0.os (Qm.l0.r k) := by
 intro ρ x kn ke; kernel_rfl
theorem Qm.l0.ok (k : Nat) : StOK 1 Try.prog (.loop (QP (Func.code Try.f118) [1, 1, 1, 0, 0])) (Qx Qm.l0.T Qm.l0.os (Qm.l0 k k)) :=
 Q0M (C := Qm.ctx k) (Qm.gok k) Try.mix Q3.nil (by kernel_rfl) (by kernel_rfl) (by kernel_rfl) (Qm.l0.round k) k
def Qm.ann (k : Nat) : Ann := .node [] none (.nil) (.node [] none (.nil) (.node [] none (.nil) (.node [] none (.node [.mask [0], .auto 1] (some (Qx Qm.l0.T Qm.l0.os (Qm.l0 k k))) .nil .nil) (.nil))))
theorem Qm.body (k : Nat) : Q1S (Qm.ctx k) Try.f118 (Func.code Try.f118) (Qm.ann k) Qm.T Qm.os (fun x K => Qm.c k x.1 x.2.1 x.2.2.1 K) := by
 intro ρ x K; kernel_rfl
theorem Qm.sem_ok (k : Nat) : QG Try.prog 118 (Qm.sem k) :=
 Q1c (C := Qm.ctx k) (Qm.gok k) Try.mix (c := Func.code Try.f118) (ann := Qm.ann k) (T := Qm.T) (os := Qm.os) (fun x K => Qm.c k x.1 x.2.1 x.2.2.1 K) Try.func118 (by kernel_rfl) (by kernel_rfl) (Q3.seq Q3.nil (Q3.seq Q3.nil (Q3.seq Q3.nil (Q3.block (Q3.loop (by kernel_rfl) (Qm.l0.ok k)))))) (Qm.body k) (by kernel_rfl) (by kernel_rfl) (by kernel_rfl)
abbrev Qi.l1.σ : Type := Int × Int × (List Int) × Int × Int × Qgi × (List Int) × (List Int) × (List Int) × Unit
abbrev Qi.l1.τ : Type := ((List Int) × Int × Qgi × (List Int) × (List Int) × (List Int) × Unit)
def Qi.l1.r (k : Nat) {ρ : Type} (x : Qi.l1.σ) (kn : Qi.l1.σ → Option ρ) (ke : Qi.l1.τ → Option ρ) : Option ρ :=
 bif (decide (x.2.2.2.2.1 < (4 : Int))) then (let v6 : Int := (IntKind.wrap IntKind.i64 ((4 : Int) * x.1))
 let v7 : Int := (IntKind.wrap IntKind.i64 (v6 + x.2.2.2.2.1))
 let v8 : Int := (IntKind.wrap IntKind.i64 ((3 : Int) - x.2.2.2.2.1))
 let v9 : Int := (IntKind.wrap IntKind.i64 ((8 : Int) * v8))
 bif (decide ((0 : Int) ≤ v9)) then (let v10 : Int := (Q1W IntKind.u32 x.2.1 v9)
 bif (decide (((0 : Int) ≤ v7) ∧ (v7 < ((32 : Nat) : Int)))) then (let v11 : Int := (IntKind.wrap IntKind.i64 (x.2.2.2.2.1 + (1 : Int)))
 kn (x.1, (x.2.1, (x.2.2.1, (x.2.2.2.1, (v11, ((x.2.2.2.2.2.1.1, ((), (x.2.2.2.2.2.1.2.2.1, ()))), (x.2.2.2.2.2.2.1, (x.2.2.2.2.2.2.2.1, ((List.set x.2.2.2.2.2.2.2.2.1 (Int.toNat v7) (IntKind.wrap IntKind.u8 v10)), ())))))))))) else (none)) else (none)) else (ke (x.2.2.1, (x.2.2.2.1, ((x.2.2.2.2.2.1.1, ((), (x.2.2.2.2.2.1.2.2.1, ()))), (x.2.2.2.2.2.2.1, (x.2.2.2.2.2.2.2.1, (x.2.2.2.2.2.2.2.2.1, ())))))))
def Qi.l1 (k : Nat) : Nat → Qi.l1.σ → Option Qi.l1.τ := Q0Q (Qi.l1.r k)
def Qi.l1.T : StT := ⟨us 2 ++ .ptr 2 [] :: us 1 ++ .ptr 3 [] :: .dat (.int .i64) :: .dat (.int .u32) :: us 17 ++ .dat Qgl :: .dat (.int .i64) :: us 3 ++ .dat (.int .i64) :: us 16, [.pair (.dat Qgl) (.pair (.vsl 1) (.dat Qgj)), .vec (.int .u8), .dat Qgn, .dat Qgn]⟩
def Qi.l1.os : List Out := [⟨(.exit 2), [.mask [2, 4, 24, 25], .auto 1], ⟨us 2 ++ .ptr 2 [] :: us 1 ++ .ptr 3 [] :: us 19 ++ .dat Qgl :: .dat (.int .i64) :: us 20, [.pair (.dat Qgl) (.pair (.vsl 1) (.dat Qgj)), .vec (.int .u8), .dat Qgn, .dat Qgn]⟩⟩]
abbrev Qi.l0.σ : Type := (List Int) × Int × Qgi × (List Int) × (List Int) × (List Int) × Unit
abbrev Qi.l0.τ : Type := (Qgi × (List Int) × (List Int) × (List Int) × Unit)
def Qi.l0.r (k : Nat) {ρ : Type} (x : Qi.l0.σ) (kn : Qi.l0.σ → Option ρ) (ke : Qi.l0.τ → Option ρ) : Option ρ :=
 bif (decide (x.2.1 < (8 : Int))) then (bif (decide (((0 : Int) ≤ x.2.1) ∧ (x.2.1 < ((8 : Nat) : Int)))) then (let v5 : Int := (List.getD x.1 (Int.toNat x.2.1) (0 : Int))
 (Qi.l1 k k (x.2.1, (v5, (x.1, (x.2.1, ((0 : Int), ((x.2.2.1.1, ((), (x.2.2.1.2.2.1, ()))), (x.2.2.2.1, (x.2.2.2.2.1, (x.2.2.2.2.2.1, ())))))))))).bind fun t12 => let v13 : Int := (IntKind.wrap IntKind.i64 (t12.2.1 + (1 : Int)))
 kn (t12.1, (v13, ((t12.2.2.1.1, ((), (t12.2.2.1.2.2.1, ()))), (t12.2.2.2.1, (t12.2.2.2.2.1, (t12.2.2.2.2.2.1, ()))))))) else (none)) else (ke ((x.2.2.1.1, ((), (x.2.2.1.2.2.1, ()))), (x.2.2.2.1, (x.2.2.2.2.1, (x.2.2.2.2.2.1, ())))))
def Qi.l0 (k : Nat) : Nat → Qi.l0.σ → Option Qi.l0.τ := Q0Q (Qi.l0.r k)
def Qi.l0.T : StT := ⟨us 2 ++ .ptr 2 [] :: us 1 ++ .ptr 3 [] :: us 19 ++ .dat Qgl :: .dat (.int .i64) :: us 20, [.pair (.dat Qgl) (.pair (.vsl 1) (.dat Qgj)), .vec (.int .u8), .dat Qgn, .dat Qgn]⟩
def Qi.l0.os : List Out := [⟨(.exit 0), [.mask [2, 4], .auto 1], ⟨us 2 ++ .ptr 2 [] :: us 1 ++ .ptr 3 [] :: us 41, [.pair (.dat Qgl) (.pair (.vsl 1) (.dat Qgj)), .vec (.int .u8), .dat Qgn, .dat Qgn]⟩⟩]
abbrev Qi.τ : Type := ((List Int) × Qgi × (List Int) × Unit)
def Qi.c (k : Nat) {ρ : Type} (b0 : Qgi) (b1 : (List Int)) (K : Qi.τ → Option ρ) : Option ρ :=
 (Q09 k (b0.1, ((), (b0.2.2.1, ()))) b1).bind fun t0 => let v1 : Int := t0.1.2.2.1
 (Q0E k v1).bind fun t2 => (Qm k t2.1 (t0.2.2.1.1, ((), (t0.2.2.1.2.2.1, ()))) t0.2.2.2.1).bind fun t3 => let v4 : (List Int) := t3.1.1
 (Qi.l0 k k (v4, ((0 : Int), ((t0.1.1, ((), (t0.1.2.2.1, ()))), (t0.2.1, ((List.replicate 32 (0 : Int)), ((List.replicate 32 (0 : Int)), ()))))))).bind fun t14 => let v15 : (List Int) := t14.2.2.2.1
 K (v15, ((t14.1.1, ((), (t14.1.2.2.1, ()))), (t14.2.1, ())))
def Qi (k : Nat) (b0 : Qgi) (b1 : (List Int)) : Option Qi.τ := Qi.c k b0 b1 some
def Qi.T : Q1F := ⟨[.ptr 0 []], [.pair (.dat Qgl) (.pair (.vsl 1) (.dat Qgj)), .vec (.int .u8)], 1⟩
def Qi.os : List Out := [⟨.ret, [.freeze (.slot 0), .auto 1], ⟨[.dat Qgn], [.pair (.dat Qgl) (.pair (.vsl 1) (.dat Qgj)), .vec (.int .u8)]⟩⟩]
def Qi.sem (k : Nat) : QY := Q1U Qi.T Qi.os fun x => Qi k x.1 x.2.1
noncomputable def Qi.ctx (k : Nat) : Ctx := ⟨Try.prog, gam [(130, (Q09.sem k)), (131, (Q0E.sem k)), (118, (Qm.sem k))]⟩
theorem Qi.gok (k : Nat) : ∀ f, QG Try.prog f ((Qi.ctx k).Γ f) := (Qq (Q09.sem_ok k) (Qq (Q0E.sem_ok k) (Qq (Qm.sem_ok k) Q0e)))
theorem Qi.l1.round (k : Nat) : Q0L (Qi.ctx k) (QP (Func.code Try.f119) [1, 1, 1, 1, 1, 0, 1, 0, 0, 1, 1, 0, 0, 1, 1, 0, 0]) (.nil) Qi.l1.T [.mask [2, 4, 5, 6, 24, 25, 29], .auto 1] Qi.l1.os (Qi.l1.r k) := by
 intro ρ x kn ke; kernel_rfl
theorem Qi.l1.ok (k : Nat) : StOK 1 Try.prog (.loop (QP (Func.code Try.f119) [1, 1, 1, 1, 1, 0, 1, 0, 0, 1, 1, 0, 0, 1, 1, 0, 0])) (Qx Qi.l1.T Qi.l1.os (Qi.l1 k k)) :=
 Q0M (C := Qi.ctx k) (Qi.gok k) Try.mix Q3.nil (by kernel_rfl) (by kernel_rfl) (by kernel_rfl) (Qi.l1.round k) k
theorem Qi.l0.round (k : Nat) : Q0L (Qi.ctx k) (QP (Func.code Try.f119) [1, 1, 1, 1, 1, 0, 1, 0, 0]) (.node [] none (.nil) (.node [] none (.nil) (.node [] none (.node [] none (.node [] none (.nil) (.node [] none (.nil) (.node [] none (.node [.mask [2, 4, 5, 6, 24, 25, 29], .auto 1] (some (Qx Qi.l1.T Qi.l1.os (Qi.l1 k k))) .nil .nil) (.nil)))) (.nil)) (.nil)))) Qi.l0.T [.mask [2, 4, 24, 25], .auto 1] Qi.l0.os (Qi.l0.r k) := by
 intro ρ x kn ke; kernel_rfl
theorem Qi.l0.ok (k : Nat) : StOK 1 Try.prog (.loop (QP (Func.code Try.f119) [1, 1, 1, 1, 1, 0, 1, 0, 0])) (Qx Qi.l0.T Qi.l0.os (Qi.l0 k k)) :=
 Q0M (C := Qi.ctx k) (Qi.gok k) Try.mix (Q3.seq Q3.nil (Q3.seq Q3.nil (Q3.seq (Q3.block (Q3.seq Q3.nil (Q3.seq Q3.nil (Q3.block (Q3.loop (by kernel_rfl) (Qi.l1.ok k)))))) Q3.nil))) (by kernel_rfl) (by kernel_rfl) (by kernel_rfl) (Qi.l0.round k) k
def Qi.ann (k : Nat) : Ann := .node [] none (.nil) (.node [] none (.nil) (.node [] none (.nil) (.node [] none (.nil) (.node [] none (.nil) (.node [] none (.node [] none (.nil) (.node [] none (.node [.mask [2, 4, 24, 25], .auto 1] (some (Qx Qi.l0.T Qi.l0.os (Qi.l0 k k))) .nil .nil) (.nil))) (.nil))))))
theorem Qi.body (k : Nat) : Q1S (Qi.ctx k) Try.f119 (Func.code Try.f119) (Qi.ann k) Qi.T Qi.os (fun x K => Qi.c k x.1 x.2.1 K) := by
 intro ρ x K; kernel_rfl
theorem Qi.sem_ok (k : Nat) : QG Try.prog 119 (Qi.sem k) :=
 Q1c (C := Qi.ctx k) (Qi.gok k) Try.mix (c := Func.code Try.f119) (ann := Qi.ann k) (T := Qi.T) (os := Qi.os) (fun x K => Qi.c k x.1 x.2.1 K) Try.func119 (by kernel_rfl) (by kernel_rfl) (Q3.seq Q3.nil (Q3.seq Q3.nil (Q3.seq Q3.nil (Q3.seq Q3.nil (Q3.seq Q3.nil (Q3.seq (Q3.seq Q3.nil (Q3.block (Q3.loop (by kernel_rfl) (Qi.l0.ok k)))) Q3.nil)))))) (Qi.body k) (by kernel_rfl) (by kernel_rfl) (by kernel_rfl)
def Q18.c (k : Nat) {ρ : Type} (s : ByteArray) (K : (List Int) × Unit → Option ρ) : Option ρ :=
 (Q1f k ).bind fun t0 => (Qr k s (t0.1.1, ((), (t0.1.2.2.1, ())))).bind fun t1 => (Qi k (t1.1.1, ((), (t1.1.2.2.1, ()))) t1.2.1).bind fun t2 => K (t2.1, ())
def Q18 (k : Nat) (s : ByteArray) : Option ((List Int) × Unit) := Q18.c k s some
def Q18.tin : List Ty := [.str]
def Q18.tout : List Ty := [Qgn]
def Q18.sem (k : Nat) : QY := Q04 Q18.tin Q18.tout fun x => Q18 k x.1
noncomputable def Q18.ctx (k : Nat) : Ctx := ⟨Try.prog, gam [(117, (Q1f.sem k)), (118, (Qr.sem k)), (119, (Qi.sem k))]⟩
theorem Q18.gok (k : Nat) : ∀ f, QG Try.prog f ((Q18.ctx k).Γ f) := (Qq (Q1f.sem_ok k) (Qq (Qr.sem_ok k) (Qq (Qi.sem_ok k) Q0e)))
def Q18.ann (k : Nat) : Ann := .nil
theorem Q18.body (k : Nat) : Q0K (Q18.ctx k) Try.f96 (Func.code Try.f96) (Q18.ann k) Q18.tin Q18.tout (fun x K => Q18.c k x.1 K) := by
 intro ρ x K; kernel_rfl
theorem Q18.sem_ok (k : Nat) : QG Try.prog 96 (Q18.sem k) :=
 QT (C := Q18.ctx k) (Q18.gok k) Try.mix (c := Func.code Try.f96) (ann := Q18.ann k) (tin := Q18.tin) (tout := Q18.tout) (fun x K => Q18.c k x.1 K) Try.func96 (by kernel_rfl) (by kernel_rfl) Q3.nil (Q18.body k)
end Go.Am
