/- A part of a proof: a machine of abstract values that tells what functions of the program compute, and the plain facts on them. -/
import Derived.Test.YtifpmlmgindkaaaGreatAm10
import Derived.KernelRfl
set_option linter.unusedVariables false
set_option linter.unusedSimpArgs false
set_option linter.unnecessarySimpa false
set_option linter.unusedSectionVars false
namespace Go.Am
abbrev Qef : Ty := (.sl (.int .u64))
abbrev Qee : Type := ((List Int) × Unit)
abbrev Qed : Ty := (.arr 4 (.int .u64))
abbrev Qec : Ty := (.arr 32 (.int .u8))
abbrev Qeb : Type := (ByteArray × Int × Unit)
abbrev Qea : Ty := (.sl  Qec )
abbrev Qe9 : Type := ((Unit × (Unit × Unit)) × Unit)
abbrev Qe8 : Ty := (.sl  Qea )
abbrev Qe7 : Type := (List (Int × (ByteArray × Unit)))
abbrev Qe6 : Type := (Int × (Unit × (Unit × (Int × Unit))))
abbrev Qe5 : Ty := (.sl (.pair (.int .u64) (.pair .str .unit)))
abbrev Qe4 : Type := ( Qe9  × (List Int) × Unit)
abbrev Qe3 : Type := (List (((List Int) × (Int × Unit)) × (ByteArray × (Int × Unit))))
abbrev Qe2 : Type := (Int × ((List Int) × ((List Int) × (Int × (Int × (Int × Unit))))))
abbrev Qe1 : Type := ( Qe2  × (Unit × Unit))
abbrev Qe0 : Ty := (.sl (.pair (.pair  Qec  (.pair (.int .u32) .unit)) (.pair .str (.pair (.int .u32) .unit))))
abbrev QdZ : Type := (Int × ( Qe3  × ( Qe7  × (Int × Unit))))
abbrev QdY : Type := (List  QdZ )
abbrev QdX : Type := ( QdZ  × Unit)
abbrev QdW : Ty := (.pair (.int .u32) (.pair  Qec  (.pair  Qec  (.pair (.int .u32) (.pair (.int .u32) (.pair (.int .u32) .unit))))))
abbrev QdV : Type := ( QdZ  ×  Qe9  × (List Int) × Unit)
abbrev QdU : Ty := (.pair (.int .u32) (.pair  Qe0  (.pair  Qe5  (.pair (.int .u32) .unit))))
abbrev QdT : Type := ( Qe2  × ( QdY  × Unit))
abbrev QdS : Ty := (.sl  QdU )
abbrev QdR : Ty := (.pair  QdW  (.pair  QdS  .unit))
end Go.Am
namespace Go.Am
open Go Go.Proofs
set_option maxRecDepth 100000
abbrev Qn.p0.σ : Type := Int × ByteArray × Qe7 × Qe6 × Unit
abbrev Qn.p0.τ : Type := (Int × Qe6 × Unit) ⊕ (Int × ByteArray × Qe7 × Qe6 × Unit)
def Qn.p0.r (k : Nat) {ρ : Type} (x : Qn.p0.σ) (K : Qn.p0.τ → Option ρ) : Option ρ :=
 bif (decide (x.1 < (0 : Int))) then (K (.inl ((1 : Int), (((0 : Int), ((), ((), ((0 : Int), ())))), ())))) else (bif (decide (x.1 > (2147483647 : Int))) then (K (.inl ((1 : Int), (((0 : Int), ((), ((), ((0 : Int), ())))), ())))) else (let v0 : Int := (((ByteArray.size x.2.1) : Nat) : Int)
 bif (decide (v0 > (96 : Int))) then (K (.inl ((1 : Int), (((0 : Int), ((), ((), ((0 : Int), ())))), ())))) else (K (.inr (x.1, (x.2.1, (x.2.2.1, ((x.2.2.2.1.1, ((), ((), (x.2.2.2.1.2.2.2.1, ())))), ()))))))))
def Qn.p0 (k : Nat) (x : Qn.p0.σ) : Option Qn.p0.τ := Qn.p0.r k x some
def Qn.p0.T : StT := ⟨.dat (.int .i64) :: .dat .str :: .dat Qe5 :: us 3 ++ .ptr 0 [] :: us 32, [.pair (.dat (.int .u32)) (.pair (.nils) (.pair (.nils) (.dat (.pair (.int .u32) .unit))))]⟩
def Qn.p0.os : List Out := [⟨.ret, [.mask [6, 7], .auto 0], ⟨us 6 ++ .ptr 0 [] :: .dat (.int .i64) :: us 31, [.pair (.dat (.int .u32)) (.pair (.nils) (.pair (.nils) (.dat (.pair (.int .u32) .unit))))]⟩⟩, ⟨.normal, [.mask [0, 1, 2, 6], .auto 0], ⟨.dat (.int .i64) :: .dat .str :: .dat Qe5 :: us 3 ++ .ptr 0 [] :: us 32, [.pair (.dat (.int .u32)) (.pair (.nils) (.pair (.nils) (.dat (.pair (.int .u32) .unit))))]⟩⟩]
def Qn.c (k : Nat) {ρ : Type} (height : Int) (extra : ByteArray) (outs : Qe7) (K : QdZ × Int × Unit → Option ρ) : Option ρ :=
  (Qn.p0 k (height, (extra, (outs, (((0 : Int), ((), ((), ((0 : Int), ())))), ()))))).bind fun t1 => (match t1 with
 | .inl t2 => (K ((t2.2.1.1, ([], ([], (t2.2.1.2.2.2.1, ())))), (t2.1, ())))
 | .inr (t3) => ((QA k ).bind fun t4 => let v5 : Int := (IntKind.wrap IntKind.u32 t3.1)
  (Qr k v5 (((), ((), ())), ()) t4.2.1).bind fun t6 => (Qf k t3.2.1 (((), ((), ())), ()) t6.2.1).bind fun t7 => (Qp k (((), ((), ())), ()) t7.2.1).bind fun t8 => bif (Nat.ble ((List.length t3.2.2.1) * 24) 140737488355328) then (K (((1 : Int), ((List.set (List.replicate 1 (((List.replicate 32 (0 : Int)), ((0 : Int), ())), (ByteArray.empty, ((0 : Int), ())))) 0 (((List.replicate 32 (0 : Int)), ((4294967295 : Int), ())), (t8.1, ((4294967295 : Int), ())))), (t3.2.2.1, ((0 : Int), ())))), ((0 : Int), ()))) else (none)))
def Qn (k : Nat) (height : Int) (extra : ByteArray) (outs : Qe7) : Option (QdZ × Int × Unit) := Qn.c k height extra outs some
def Qn.tin : List Ty := [(.int .i64), .str, Qe5]
def Qn.tout : List Ty := [QdU, (.int .i64)]
def Qn.sem (k : Nat) : Qt := QL Qn.tin Qn.tout fun x => Qn k x.1 x.2.1 x.2.2.1
noncomputable def Qn.ctx (k : Nat) : Ctx := ⟨Tryz.prog, gam [(33, (QA.sem k)), (36, (Qr.sem k)), (34, (Qf.sem k)), (38, (Qp.sem k))]⟩
theorem Qn.gok (k : Nat) : ∀ f, Qo Tryz.prog f ((Qn.ctx k).Γ f) := (Qd (QA.sem_ok k) (Qd (Qr.sem_ok k) (Qd (Qf.sem_ok k) (Qd (Qp.sem_ok k) QU))))
theorem Qn.p0.is (k : Nat) : Q3U (Qn.ctx k) (Q0n (Func.code Tryz.f89) [1, 0]) (.nil) Qn.p0.T Qn.p0.os (Qn.p0.r k) := by
 intro ρ x K; kernel_rfl
theorem Qn.p0.ok (k : Nat) : StOK 0 Tryz.prog (Q0n (Func.code Tryz.f89) [1, 0]) (QK Qn.p0.T Qn.p0.os (Qn.p0 k)) :=
 Q3w (C := Qn.ctx k) (T := Qn.p0.T) (os := Qn.p0.os) (Qn.gok k) Tryz.mix (fun x K => Qn.p0.r k x K) Q3.nil (by kernel_rfl) (by kernel_rfl) (Qn.p0.is k)
def Qn.ann (k : Nat) : Ann := .node [] none (.nil) (.node [] none (.node [.mask [0, 1, 2, 6], .auto 0] (some (QK Qn.p0.T Qn.p0.os (Qn.p0 k))) .nil .nil) (.nil))
theorem Qn.body (k : Nat) : Q0C (Qn.ctx k) Tryz.f89 (Func.code Tryz.f89) (Qn.ann k) Qn.tin Qn.tout (fun x K => Qn.c k x.1 x.2.1 x.2.2.1 K) := by
 intro ρ x K; kernel_rfl
theorem Qn.sem_ok (k : Nat) : Qo Tryz.prog 89 (Qn.sem k) :=
 Qw (C := Qn.ctx k) (Qn.gok k) Tryz.mix (c := Func.code Tryz.f89) (ann := Qn.ann k) (tin := Qn.tin) (tout := Qn.tout) (fun x K => Qn.c k x.1 x.2.1 x.2.2.1 K) Tryz.func89 (by kernel_rfl) (by kernel_rfl) (Q3.seq Q3.nil (Q3.seq (Q3.loop (by kernel_rfl) (Qn.p0.ok k)) Q3.nil)) (Qn.body k)
def Q0c.c (k : Nat) {ρ : Type} (n : Int) (K : Int × Unit → Option ρ) : Option ρ :=
 bif (decide (n < (253 : Int))) then (K ((1 : Int), ())) else (bif (decide (n < (65536 : Int))) then (K ((3 : Int), ())) else (bif (decide (n < (4294967296 : Int))) then (K ((5 : Int), ())) else (K ((9 : Int), ()))))
def Q0c (k : Nat) (n : Int) : Option (Int × Unit) := Q0c.c k n some
def Q0c.tin : List Ty := [(.int .u64)]
def Q0c.tout : List Ty := [(.int .i64)]
def Q0c.sem (k : Nat) : Qt := QL Q0c.tin Q0c.tout fun x => Q0c k x.1
noncomputable def Q0c.ctx (k : Nat) : Ctx := ⟨Tryz.prog, gam []⟩
theorem Q0c.gok (k : Nat) : ∀ f, Qo Tryz.prog f ((Q0c.ctx k).Γ f) := QU
def Q0c.ann (k : Nat) : Ann := .nil
theorem Q0c.body (k : Nat) : Q0C (Q0c.ctx k) Tryz.f158 (Func.code Tryz.f158) (Q0c.ann k) Q0c.tin Q0c.tout (fun x K => Q0c.c k x.1 K) := by
 intro ρ x K; kernel_rfl
theorem Q0c.sem_ok (k : Nat) : Qo Tryz.prog 158 (Q0c.sem k) :=
 Qw (C := Q0c.ctx k) (Q0c.gok k) Tryz.mix (c := Func.code Tryz.f158) (ann := Q0c.ann k) (tin := Q0c.tin) (tout := Q0c.tout) (fun x K => Q0c.c k x.1 K) Tryz.func158 (by kernel_rfl) (by kernel_rfl) Q3.nil (Q0c.body k)
def Q14.c (k : Nat) {ρ : Type} (n : Int) (K : Int × Unit → Option ρ) : Option ρ :=
 (Q0c k (IntKind.wrap IntKind.u64 n)).bind fun t0 => let v1 : Int := (IntKind.wrap IntKind.i64 (t0.1 + n))
 K (v1, ())
def Q14 (k : Nat) (n : Int) : Option (Int × Unit) := Q14.c k n some
def Q14.tin : List Ty := [(.int .i64)]
def Q14.tout : List Ty := [(.int .i64)]
def Q14.sem (k : Nat) : Qt := QL Q14.tin Q14.tout fun x => Q14 k x.1
noncomputable def Q14.ctx (k : Nat) : Ctx := ⟨Tryz.prog, gam [(158, (Q0c.sem k))]⟩
theorem Q14.gok (k : Nat) : ∀ f, Qo Tryz.prog f ((Q14.ctx k).Γ f) := (Qd (Q0c.sem_ok k) QU)
def Q14.ann (k : Nat) : Ann := .nil
theorem Q14.body (k : Nat) : Q0C (Q14.ctx k) Tryz.f159 (Func.code Tryz.f159) (Q14.ann k) Q14.tin Q14.tout (fun x K => Q14.c k x.1 K) := by
 intro ρ x K; kernel_rfl
theorem Q14.sem_ok (k : Nat) : Qo Tryz.prog 159 (Q14.sem k) :=
 Qw (C := Q14.ctx k) (Q14.gok k) Tryz.mix (c := Func.code Tryz.f159) (ann := Q14.ann k) (tin := Q14.tin) (tout := Q14.tout) (fun x K => Q14.c k x.1 K) Tryz.func159 (by kernel_rfl) (by kernel_rfl) Q3.nil (Q14.body k)
abbrev Q06.l0.σ : Type := Int × Qe3 × Int × Int × QdZ × Unit
abbrev Q06.l0.τ : Type := (Int × QdZ × Unit)
def Q06.l0.r (k : Nat) {ρ : Type} (x : Q06.l0.σ) (kn : Q06.l0.σ → Option ρ) (ke : Q06.l0.τ → Option ρ) : Option ρ :=
 bif (decide (x.2.2.2.1 < x.2.2.1)) then (bif (decide (((0 : Int) ≤ x.2.2.2.1) ∧ (x.2.2.2.1 < (((List.length x.2.1) : Nat) : Int)))) then (let v11 : ByteArray := (List.getD x.2.1 (Int.toNat x.2.2.2.1) (((List.replicate 32 (0 : Int)), ((0 : Int), ())), (ByteArray.empty, ((0 : Int), ())))).2.1
 (Q14 k (((ByteArray.size v11) : Nat) : Int)).bind fun t12 => let v13 : Int := (IntKind.wrap IntKind.i64 ((40 : Int) + t12.1))
 let v14 : Int := (IntKind.wrap IntKind.i64 (x.1 + v13))
 let v15 : Int := (IntKind.wrap IntKind.i64 (x.2.2.2.1 + (1 : Int)))
 kn (v14, (x.2.1, (x.2.2.1, (v15, ((x.2.2.2.2.1.1, (x.2.2.2.2.1.2.1, (x.2.2.2.2.1.2.2.1, (x.2.2.2.2.1.2.2.2.1, ())))), ())))))) else (none)) else (ke (x.1, ((x.2.2.2.2.1.1, (x.2.2.2.2.1.2.1, (x.2.2.2.2.1.2.2.1, (x.2.2.2.2.1.2.2.2.1, ())))), ())))
def Q06.l0 (k : Nat) : Nat → Q06.l0.σ → Option Q06.l0.τ := Q0T (Q06.l0.r k)
def Q06.l0.T : StT := ⟨us 1 ++ .ptr 0 [] :: us 1 ++ .dat (.int .i64) :: us 18 ++ .dat Qe0 :: .dat (.int .i64) :: .dat (.int .i64) :: us 27, [.dat QdU]⟩
def Q06.l0.os : List Out := [⟨(.exit 0), [.mask [1, 3], .auto 0], ⟨us 1 ++ .ptr 0 [] :: us 1 ++ .dat (.int .i64) :: us 48, [.dat QdU]⟩⟩]
abbrev Q06.l1.σ : Type := Int × Qe7 × Int × Int × Unit
abbrev Q06.l1.τ : Type := (Int × Unit)
def Q06.l1.r (k : Nat) {ρ : Type} (x : Q06.l1.σ) (kn : Q06.l1.σ → Option ρ) (ke : Q06.l1.τ → Option ρ) : Option ρ :=
 bif (decide (x.2.2.2.1 < x.2.2.1)) then (bif (decide (((0 : Int) ≤ x.2.2.2.1) ∧ (x.2.2.2.1 < (((List.length x.2.1) : Nat) : Int)))) then (let v19 : ByteArray := (List.getD x.2.1 (Int.toNat x.2.2.2.1) ((0 : Int), (ByteArray.empty, ()))).2.1
 (Q14 k (((ByteArray.size v19) : Nat) : Int)).bind fun t20 => let v21 : Int := (IntKind.wrap IntKind.i64 ((8 : Int) + t20.1))
 let v22 : Int := (IntKind.wrap IntKind.i64 (x.1 + v21))
 let v23 : Int := (IntKind.wrap IntKind.i64 (x.2.2.2.1 + (1 : Int)))
 kn (v22, (x.2.1, (x.2.2.1, (v23, ()))))) else (none)) else (ke (x.1, ()))
def Q06.l1 (k : Nat) : Nat → Q06.l1.σ → Option Q06.l1.τ := Q0T (Q06.l1.r k)
def Q06.l1.T : StT := ⟨us 3 ++ .dat (.int .i64) :: us 33 ++ .dat Qe5 :: .dat (.int .i64) :: .dat (.int .i64) :: us 12, []⟩
def Q06.l1.os : List Out := [⟨(.exit 2), [.mask [3], .auto 0], ⟨us 3 ++ .dat (.int .i64) :: us 48, []⟩⟩]
def Q06.c (k : Nat) {ρ : Type} (t : QdZ) (K : Int × Unit → Option ρ) : Option ρ :=
 let v0 : Qe3 := t.2.1
 let v1 : Int := (((List.length v0) : Nat) : Int)
 (Q0c k (IntKind.wrap IntKind.u64 v1)).bind fun t2 => let v3 : Int := (IntKind.wrap IntKind.i64 ((4 : Int) + t2.1))
 let v4 : Qe7 := t.2.2.1
 let v5 : Int := (((List.length v4) : Nat) : Int)
 (Q0c k (IntKind.wrap IntKind.u64 v5)).bind fun t6 => let v7 : Int := (IntKind.wrap IntKind.i64 (v3 + t6.1))
 let v8 : Int := (IntKind.wrap IntKind.i64 (v7 + (4 : Int)))
 let v9 : Qe3 := t.2.1
 let v10 : Int := (((List.length v9) : Nat) : Int)
 (Q06.l0 k k (v8, (v9, (v10, ((0 : Int), ((t.1, (t.2.1, (t.2.2.1, (t.2.2.2.1, ())))), ())))))).bind fun t16 => let v17 : Qe7 := t16.2.1.2.2.1
 let v18 : Int := (((List.length v17) : Nat) : Int)
 (Q06.l1 k k (t16.1, (v17, (v18, ((0 : Int), ()))))).bind fun t24 => K (t24.1, ())
def Q06 (k : Nat) (t : QdZ) : Option (Int × Unit) := Q06.c k t some
def Q06.tin : List Ty := [QdU]
def Q06.tout : List Ty := [(.int .i64)]
def Q06.sem (k : Nat) : Qt := QL Q06.tin Q06.tout fun x => Q06 k x.1
noncomputable def Q06.ctx (k : Nat) : Ctx := ⟨Tryz.prog, gam [(158, (Q0c.sem k)), (159, (Q14.sem k))]⟩
theorem Q06.gok (k : Nat) : ∀ f, Qo Tryz.prog f ((Q06.ctx k).Γ f) := (Qd (Q0c.sem_ok k) (Qd (Q14.sem_ok k) QU))
theorem Q06.l1.round (k : Nat) : Q0V (Q06.ctx k) (Q0n (Func.code Tryz.f146) [1, 1, 1, 0, 1, 0, 0]) (.nil) Q06.l1.T [.mask [3, 37, 38, 39], .auto 0] Q06.l1.os (Q06.l1.r k) := by
 intro ρ x kn ke; kernel_rfl
theorem Q06.l1.ok (k : Nat) : StOK 0 Tryz.prog (.loop (Q0n (Func.code Tryz.f146) [1, 1, 1, 0, 1, 0, 0])) (QK Q06.l1.T Q06.l1.os (Q06.l1 k k)) :=
 Q0X (C := Q06.ctx k) (Q06.gok k) Tryz.mix Q3.nil (by kernel_rfl) (by kernel_rfl) (by kernel_rfl) (Q06.l1.round k) k
theorem Q06.l0.round (k : Nat) : Q0V (Q06.ctx k) (Q0n (Func.code Tryz.f146) [1, 1, 0, 1, 0, 0]) (.nil) Q06.l0.T [.mask [1, 3, 22, 23, 24], .auto 0] Q06.l0.os (Q06.l0.r k) := by
 intro ρ x kn ke; kernel_rfl
theorem Q06.l0.ok (k : Nat) : StOK 0 Tryz.prog (.loop (Q0n (Func.code Tryz.f146) [1, 1, 0, 1, 0, 0])) (QK Q06.l0.T Q06.l0.os (Q06.l0 k k)) :=
 Q0X (C := Q06.ctx k) (Q06.gok k) Tryz.mix Q3.nil (by kernel_rfl) (by kernel_rfl) (by kernel_rfl) (Q06.l0.round k) k
def Q06.ann (k : Nat) : Ann := .node [] none (.nil) (.node [] none (.nil) (.node [] none (.node [] none (.nil) (.node [] none (.node [.mask [1, 3, 22, 23, 24], .auto 0] (some (QK Q06.l0.T Q06.l0.os (Q06.l0 k k))) .nil .nil) (.nil))) (.node [] none (.node [] none (.nil) (.node [] none (.node [.mask [3, 37, 38, 39], .auto 0] (some (QK Q06.l1.T Q06.l1.os (Q06.l1 k k))) .nil .nil) (.nil))) (.nil))))
theorem Q06.body (k : Nat) : Q0C (Q06.ctx k) Tryz.f146 (Func.code Tryz.f146) (Q06.ann k) Q06.tin Q06.tout (fun x K => Q06.c k x.1 K) := by
 intro ρ x K; kernel_rfl
theorem Q06.sem_ok (k : Nat) : Qo Tryz.prog 146 (Q06.sem k) :=
 Qw (C := Q06.ctx k) (Q06.gok k) Tryz.mix (c := Func.code Tryz.f146) (ann := Q06.ann k) (tin := Q06.tin) (tout := Q06.tout) (fun x K => Q06.c k x.1 K) Tryz.func146 (by kernel_rfl) (by kernel_rfl) (Q3.seq Q3.nil (Q3.seq Q3.nil (Q3.seq (Q3.seq Q3.nil (Q3.block (Q3.loop (by kernel_rfl) (Q06.l0.ok k)))) (Q3.seq (Q3.seq Q3.nil (Q3.block (Q3.loop (by kernel_rfl) (Q06.l1.ok k)))) Q3.nil)))) (Q06.body k)
def Q0M.c (k : Nat) {ρ : Type} (n : Int) (K : ByteArray × Unit → Option ρ) : Option ρ :=
 (Q0c k n).bind fun t0 => bif (t0.1 == (1 : Int)) then ((Q09 k n (1 : Int)).bind fun t1 => K (t1.1, ())) else (bif (t0.1 == (3 : Int)) then ((Q09 k (253 : Int) (1 : Int)).bind fun t2 => (Q09 k n (2 : Int)).bind fun t3 => bif (Nat.ble ((ByteArray.size t2.1) + (ByteArray.size t3.1)) 9223372036854775807) then (let v4 : ByteArray := (t2.1 ++ t3.1)
 K (v4, ())) else (none)) else (bif (t0.1 == (5 : Int)) then ((Q09 k (254 : Int) (1 : Int)).bind fun t5 => (Q09 k n (4 : Int)).bind fun t6 => bif (Nat.ble ((ByteArray.size t5.1) + (ByteArray.size t6.1)) 9223372036854775807) then (let v7 : ByteArray := (t5.1 ++ t6.1)
 K (v7, ())) else (none)) else ((Q09 k (255 : Int) (1 : Int)).bind fun t8 => (Q09 k n (8 : Int)).bind fun t9 => bif (Nat.ble ((ByteArray.size t8.1) + (ByteArray.size t9.1)) 9223372036854775807) then (let v10 : ByteArray := (t8.1 ++ t9.1)
 K (v10, ())) else (none))))
def Q0M (k : Nat) (n : Int) : Option (ByteArray × Unit) := Q0M.c k n some
def Q0M.tin : List Ty := [(.int .u64)]
def Q0M.tout : List Ty := [.str]
def Q0M.sem (k : Nat) : Qt := QL Q0M.tin Q0M.tout fun x => Q0M k x.1
noncomputable def Q0M.ctx (k : Nat) : Ctx := ⟨Tryz.prog, gam [(158, (Q0c.sem k)), (82, (Q09.sem k))]⟩
theorem Q0M.gok (k : Nat) : ∀ f, Qo Tryz.prog f ((Q0M.ctx k).Γ f) := (Qd (Q0c.sem_ok k) (Qd (Q09.sem_ok k) QU))
def Q0M.ann (k : Nat) : Ann := .nil
theorem Q0M.body (k : Nat) : Q0C (Q0M.ctx k) Tryz.f145 (Func.code Tryz.f145) (Q0M.ann k) Q0M.tin Q0M.tout (fun x K => Q0M.c k x.1 K) := by
 intro ρ x K; kernel_rfl
theorem Q0M.sem_ok (k : Nat) : Qo Tryz.prog 145 (Q0M.sem k) :=
 Qw (C := Q0M.ctx k) (Q0M.gok k) Tryz.mix (c := Func.code Tryz.f145) (ann := Q0M.ann k) (tin := Q0M.tin) (tout := Q0M.tout) (fun x K => Q0M.c k x.1 K) Tryz.func145 (by kernel_rfl) (by kernel_rfl) Q3.nil (Q0M.body k)
abbrev QE.τ : Type := Qe4 
def QE.c (k : Nat) {ρ : Type} (n : Int) (b0 : Qe9) (b1 : (List Int)) (K : QE.τ → Option ρ) : Option ρ :=
 (Q0M k n).bind fun t0 => (Qf k t0.1 (((), ((), ())), ()) b1).bind fun t1 => K ((((), ((), ())), ()), (t1.2.1, ()))
def QE (k : Nat) (n : Int) (b0 : Qe9) (b1 : (List Int)) : Option QE.τ := QE.c k n b0 b1 some
def QE.T : Q1d := ⟨[.ptr 0 [], .dat (.int .u64)], [.pair (.pair (.sfp 0 [0] 146) (.pair (.vbs 1) (.dat .unit))) (.dat .unit), .vec (.int .u8)], 1⟩
def QE.os : List Out := [⟨.ret, [.auto 1], ⟨[], [.pair (.pair (.sfp 0 [0] 146) (.pair (.vbs 1) (.dat .unit))) (.dat .unit), .vec (.int .u8)]⟩⟩]
def QE.sem (k : Nat) : Qt := Q1o QE.T QE.os fun x => QE k x.1 x.2.1 x.2.2.1
noncomputable def QE.ctx (k : Nat) : Ctx := ⟨Tryz.prog, gam [(145, (Q0M.sem k)), (34, (Qf.sem k))]⟩
theorem QE.gok (k : Nat) : ∀ f, Qo Tryz.prog f ((QE.ctx k).Γ f) := (Qd (Q0M.sem_ok k) (Qd (Qf.sem_ok k) QU))
def QE.ann (k : Nat) : Ann := .nil
theorem QE.body (k : Nat) : Q1y (QE.ctx k) Tryz.f132 (Func.code Tryz.f132) (QE.ann k) QE.T QE.os (fun x K => QE.c k x.1 x.2.1 x.2.2.1 K) := by
 intro ρ x K; kernel_rfl
theorem QE.sem_ok (k : Nat) : Qo Tryz.prog 132 (QE.sem k) :=
 Q0Y (C := QE.ctx k) (QE.gok k) Tryz.mix (c := Func.code Tryz.f132) (ann := QE.ann k) (T := QE.T) (os := QE.os) (fun x K => QE.c k x.1 x.2.1 x.2.2.1 K) Tryz.func132 (by kernel_rfl) (by kernel_rfl) Q3.nil (QE.body k) (by kernel_rfl) (by kernel_rfl) (by kernel_rfl)
abbrev QO.τ : Type := Qe4 
def QO.c (k : Nat) {ρ : Type} (s : ByteArray) (b0 : Qe9) (b1 : (List Int)) (K : QO.τ → Option ρ) : Option ρ :=
 (QE k (IntKind.wrap IntKind.u64 (((ByteArray.size s) : Nat) : Int)) (((), ((), ())), ()) b1).bind fun t0 => (Qf k s (((), ((), ())), ()) t0.2.1).bind fun t1 => K ((((), ((), ())), ()), (t1.2.1, ()))
def QO (k : Nat) (s : ByteArray) (b0 : Qe9) (b1 : (List Int)) : Option QO.τ := QO.c k s b0 b1 some
def QO.T : Q1d := ⟨[.ptr 0 [], .dat .str], [.pair (.pair (.sfp 0 [0] 146) (.pair (.vbs 1) (.dat .unit))) (.dat .unit), .vec (.int .u8)], 1⟩
def QO.os : List Out := [⟨.ret, [.auto 1], ⟨[], [.pair (.pair (.sfp 0 [0] 146) (.pair (.vbs 1) (.dat .unit))) (.dat .unit), .vec (.int .u8)]⟩⟩]
def QO.sem (k : Nat) : Qt := Q1o QO.T QO.os fun x => QO k x.1 x.2.1 x.2.2.1
noncomputable def QO.ctx (k : Nat) : Ctx := ⟨Tryz.prog, gam [(132, (QE.sem k)), (34, (Qf.sem k))]⟩
theorem QO.gok (k : Nat) : ∀ f, Qo Tryz.prog f ((QO.ctx k).Γ f) := (Qd (QE.sem_ok k) (Qd (Qf.sem_ok k) QU))
def QO.ann (k : Nat) : Ann := .nil
theorem QO.body (k : Nat) : Q1y (QO.ctx k) Tryz.f147 (Func.code Tryz.f147) (QO.ann k) QO.T QO.os (fun x K => QO.c k x.1 x.2.1 x.2.2.1 K) := by
 intro ρ x K; kernel_rfl
theorem QO.sem_ok (k : Nat) : Qo Tryz.prog 147 (QO.sem k) :=
 Q0Y (C := QO.ctx k) (QO.gok k) Tryz.mix (c := Func.code Tryz.f147) (ann := QO.ann k) (T := QO.T) (os := QO.os) (fun x K => QO.c k x.1 x.2.1 x.2.2.1 K) Tryz.func147 (by kernel_rfl) (by kernel_rfl) Q3.nil (QO.body k) (by kernel_rfl) (by kernel_rfl) (by kernel_rfl)
abbrev QX.τ : Type := Qe4 
def QX.c (k : Nat) {ρ : Type} (n : Int) (b0 : Qe9) (b1 : (List Int)) (K : QX.τ → Option ρ) : Option ρ :=
 (Q09 k n (8 : Int)).bind fun t0 => (Qf k t0.1 (((), ((), ())), ()) b1).bind fun t1 => K ((((), ((), ())), ()), (t1.2.1, ()))
def QX (k : Nat) (n : Int) (b0 : Qe9) (b1 : (List Int)) : Option QX.τ := QX.c k n b0 b1 some
def QX.T : Q1d := ⟨[.ptr 0 [], .dat (.int .u64)], [.pair (.pair (.sfp 0 [0] 146) (.pair (.vbs 1) (.dat .unit))) (.dat .unit), .vec (.int .u8)], 1⟩
def QX.os : List Out := [⟨.ret, [.auto 1], ⟨[], [.pair (.pair (.sfp 0 [0] 146) (.pair (.vbs 1) (.dat .unit))) (.dat .unit), .vec (.int .u8)]⟩⟩]
def QX.sem (k : Nat) : Qt := Q1o QX.T QX.os fun x => QX k x.1 x.2.1 x.2.2.1
noncomputable def QX.ctx (k : Nat) : Ctx := ⟨Tryz.prog, gam [(82, (Q09.sem k)), (34, (Qf.sem k))]⟩
theorem QX.gok (k : Nat) : ∀ f, Qo Tryz.prog f ((QX.ctx k).Γ f) := (Qd (Q09.sem_ok k) (Qd (Qf.sem_ok k) QU))
def QX.ann (k : Nat) : Ann := .nil
theorem QX.body (k : Nat) : Q1y (QX.ctx k) Tryz.f104 (Func.code Tryz.f104) (QX.ann k) QX.T QX.os (fun x K => QX.c k x.1 x.2.1 x.2.2.1 K) := by
 intro ρ x K; kernel_rfl
theorem QX.sem_ok (k : Nat) : Qo Tryz.prog 104 (QX.sem k) :=
 Q0Y (C := QX.ctx k) (QX.gok k) Tryz.mix (c := Func.code Tryz.f104) (ann := QX.ann k) (T := QX.T) (os := QX.os) (fun x K => QX.c k x.1 x.2.1 x.2.2.1 K) Tryz.func104 (by kernel_rfl) (by kernel_rfl) Q3.nil (QX.body k) (by kernel_rfl) (by kernel_rfl) (by kernel_rfl)
abbrev Qa.l0.σ : Type := Qe3 × Int × Int × QdZ × Unit
abbrev Qa.l0.τ : Type := Qeb ⊕ QdX 
def Qa.l0.r (k : Nat) {ρ : Type} (x : Qa.l0.σ) (kn : Qa.l0.σ → Option ρ) (ke : Qa.l0.τ → Option ρ) : Option ρ :=
 bif (decide (x.2.2.1 < x.2.1)) then (bif (decide (((0 : Int) ≤ x.2.2.1) ∧ (x.2.2.1 < (((List.length x.1) : Nat) : Int)))) then (let v2 : ByteArray := (List.getD x.1 (Int.toNat x.2.2.1) (((List.replicate 32 (0 : Int)), ((0 : Int), ())), (ByteArray.empty, ((0 : Int), ())))).2.1
 bif (decide ((((ByteArray.size v2) : Nat) : Int) > (520 : Int))) then (ke (.inl ((⟨(List.toArray [])⟩ : ByteArray), ((100 : Int), ())))) else (let v3 : Int := (IntKind.wrap IntKind.i64 (x.2.2.1 + (1 : Int)))
 kn (x.1, (x.2.1, (v3, ((x.2.2.2.1.1, (x.2.2.2.1.2.1, (x.2.2.2.1.2.2.1, (x.2.2.2.1.2.2.2.1, ())))), ())))))) else (none)) else (ke (.inr ((x.2.2.2.1.1, (x.2.2.2.1.2.1, (x.2.2.2.1.2.2.1, (x.2.2.2.1.2.2.2.1, ())))), ())))
def Qa.l0 (k : Nat) : Nat → Qa.l0.σ → Option Qa.l0.τ := Q0T (Qa.l0.r k)
def Qa.l0.T : StT := ⟨us 1 ++ .ptr 0 [] :: us 12 ++ .dat Qe0 :: .dat (.int .i64) :: .dat (.int .i64) :: us 88, [.dat QdU]⟩
def Qa.l0.os : List Out := [⟨.ret, [.mask [2, 3], .auto 0], ⟨us 2 ++ .dat .str :: .dat (.int .i64) :: us 101, []⟩⟩, ⟨(.exit 0), [.mask [1], .auto 0], ⟨us 1 ++ .ptr 0 [] :: us 103, [.dat QdU]⟩⟩]
abbrev Qa.l1.σ : Type := Qe7 × Int × Int × QdZ × Unit
abbrev Qa.l1.τ : Type := Qeb ⊕ QdX 
def Qa.l1.r (k : Nat) {ρ : Type} (x : Qa.l1.σ) (kn : Qa.l1.σ → Option ρ) (ke : Qa.l1.τ → Option ρ) : Option ρ :=
 bif (decide (x.2.2.1 < x.2.1)) then (bif (decide (((0 : Int) ≤ x.2.2.1) ∧ (x.2.2.1 < (((List.length x.1) : Nat) : Int)))) then (let v9 : ByteArray := (List.getD x.1 (Int.toNat x.2.2.1) ((0 : Int), (ByteArray.empty, ()))).2.1
 bif (decide ((((ByteArray.size v9) : Nat) : Int) > (520 : Int))) then (ke (.inl ((⟨(List.toArray [])⟩ : ByteArray), ((100 : Int), ())))) else (let v10 : Int := (IntKind.wrap IntKind.i64 (x.2.2.1 + (1 : Int)))
 kn (x.1, (x.2.1, (v10, ((x.2.2.2.1.1, (x.2.2.2.1.2.1, (x.2.2.2.1.2.2.1, (x.2.2.2.1.2.2.2.1, ())))), ())))))) else (none)) else (ke (.inr ((x.2.2.2.1.1, (x.2.2.2.1.2.1, (x.2.2.2.1.2.2.1, (x.2.2.2.1.2.2.2.1, ())))), ())))
def Qa.l1 (k : Nat) : Nat → Qa.l1.σ → Option Qa.l1.τ := Q0T (Qa.l1.r k)
def Qa.l1.T : StT := ⟨us 1 ++ .ptr 0 [] :: us 24 ++ .dat Qe5 :: .dat (.int .i64) :: .dat (.int .i64) :: us 76, [.dat QdU]⟩
def Qa.l1.os : List Out := [⟨.ret, [.mask [2, 3], .auto 0], ⟨us 2 ++ .dat .str :: .dat (.int .i64) :: us 101, []⟩⟩, ⟨(.exit 2), [.mask [1], .auto 0], ⟨us 1 ++ .ptr 0 [] :: us 103, [.dat QdU]⟩⟩]
abbrev Qa.l2.σ : Type := Qe3 × Int × Int × QdZ × Qe9 × (List Int) × Unit
abbrev Qa.l2.τ : Type := QdV 
def Qa.l2.r (k : Nat) {ρ : Type} (x : Qa.l2.σ) (kn : Qa.l2.σ → Option ρ) (ke : Qa.l2.τ → Option ρ) : Option ρ :=
 bif (decide (x.2.2.1 < x.2.1)) then (bif (decide (((0 : Int) ≤ x.2.2.1) ∧ (x.2.2.1 < (((List.length x.1) : Nat) : Int)))) then (let v23 : (List Int) := (List.getD x.1 (Int.toNat x.2.2.1) (((List.replicate 32 (0 : Int)), ((0 : Int), ())), (ByteArray.empty, ((0 : Int), ())))).1.1
 (QM k v23 (((), ((), ())), ()) x.2.2.2.2.2.1).bind fun t24 => let v25 : Int := (List.getD x.1 (Int.toNat x.2.2.1) (((List.replicate 32 (0 : Int)), ((0 : Int), ())), (ByteArray.empty, ((0 : Int), ())))).1.2.1
 (Qr k v25 (((), ((), ())), ()) t24.2.1).bind fun t26 => let v27 : ByteArray := (List.getD x.1 (Int.toNat x.2.2.1) (((List.replicate 32 (0 : Int)), ((0 : Int), ())), (ByteArray.empty, ((0 : Int), ())))).2.1
 (QO k v27 (((), ((), ())), ()) t26.2.1).bind fun t28 => let v29 : Int := (List.getD x.1 (Int.toNat x.2.2.1) (((List.replicate 32 (0 : Int)), ((0 : Int), ())), (ByteArray.empty, ((0 : Int), ())))).2.2.1
 (Qr k v29 (((), ((), ())), ()) t28.2.1).bind fun t30 => let v31 : Int := (IntKind.wrap IntKind.i64 (x.2.2.1 + (1 : Int)))
 kn (x.1, (x.2.1, (v31, ((x.2.2.2.1.1, (x.2.2.2.1.2.1, (x.2.2.2.1.2.2.1, (x.2.2.2.1.2.2.2.1, ())))), ((((), ((), ())), ()), (t30.2.1, ()))))))) else (none)) else (ke ((x.2.2.2.1.1, (x.2.2.2.1.2.1, (x.2.2.2.1.2.2.1, (x.2.2.2.1.2.2.2.1, ())))), ((((), ((), ())), ()), (x.2.2.2.2.2.1, ()))))
def Qa.l2 (k : Nat) : Nat → Qa.l2.σ → Option Qa.l2.τ := Q0T (Qa.l2.r k)
def Qa.l2.T : StT := ⟨us 1 ++ .ptr 0 [] :: us 6 ++ .ptr 1 [] :: us 43 ++ .dat Qe0 :: .dat (.int .i64) :: .dat (.int .i64) :: us 50, [.dat QdU, .pair (.pair (.sfp 1 [0] 146) (.pair (.vbs 2) (.dat .unit))) (.dat .unit), .vec (.int .u8)]⟩
def Qa.l2.os : List Out := [⟨(.exit 4), [.mask [1, 8], .auto 0], ⟨us 1 ++ .ptr 0 [] :: us 6 ++ .ptr 1 [] :: us 96, [.dat QdU, .pair (.pair (.sfp 1 [0] 146) (.pair (.vbs 2) (.dat .unit))) (.dat .unit), .vec (.int .u8)]⟩⟩]
abbrev Qa.l3.σ : Type := Qe7 × Int × Int × QdZ × Qe9 × (List Int) × Unit
abbrev Qa.l3.τ : Type := QdV 
def Qa.l3.r (k : Nat) {ρ : Type} (x : Qa.l3.σ) (kn : Qa.l3.σ → Option ρ) (ke : Qa.l3.τ → Option ρ) : Option ρ :=
 bif (decide (x.2.2.1 < x.2.1)) then (bif (decide (((0 : Int) ≤ x.2.2.1) ∧ (x.2.2.1 < (((List.length x.1) : Nat) : Int)))) then (let v38 : Int := (List.getD x.1 (Int.toNat x.2.2.1) ((0 : Int), (ByteArray.empty, ()))).1
 (QX k v38 (((), ((), ())), ()) x.2.2.2.2.2.1).bind fun t39 => let v40 : ByteArray := (List.getD x.1 (Int.toNat x.2.2.1) ((0 : Int), (ByteArray.empty, ()))).2.1
 (QO k v40 (((), ((), ())), ()) t39.2.1).bind fun t41 => let v42 : Int := (IntKind.wrap IntKind.i64 (x.2.2.1 + (1 : Int)))
 kn (x.1, (x.2.1, (v42, ((x.2.2.2.1.1, (x.2.2.2.1.2.1, (x.2.2.2.1.2.2.1, (x.2.2.2.1.2.2.2.1, ())))), ((((), ((), ())), ()), (t41.2.1, ()))))))) else (none)) else (ke ((x.2.2.2.1.1, (x.2.2.2.1.2.1, (x.2.2.2.1.2.2.1, (x.2.2.2.1.2.2.2.1, ())))), ((((), ((), ())), ()), (x.2.2.2.2.2.1, ()))))
def Qa.l3 (k : Nat) : Nat → Qa.l3.σ → Option Qa.l3.τ := Q0T (Qa.l3.r k)
def Qa.l3.T : StT := ⟨us 1 ++ .ptr 0 [] :: us 6 ++ .ptr 1 [] :: us 75 ++ .dat Qe5 :: .dat (.int .i64) :: .dat (.int .i64) :: us 18, [.dat QdU, .pair (.pair (.sfp 1 [0] 146) (.pair (.vbs 2) (.dat .unit))) (.dat .unit), .vec (.int .u8)]⟩
def Qa.l3.os : List Out := [⟨(.exit 6), [.mask [1, 8], .auto 0], ⟨us 1 ++ .ptr 0 [] :: us 6 ++ .ptr 1 [] :: us 96, [.dat QdU, .pair (.pair (.sfp 1 [0] 146) (.pair (.vbs 2) (.dat .unit))) (.dat .unit), .vec (.int .u8)]⟩⟩]
def Qa.c (k : Nat) {ρ : Type} (t : QdZ) (K : ByteArray × Int × Unit → Option ρ) : Option ρ :=
  let v0 : Qe3 := t.2.1
  let v1 : Int := (((List.length v0) : Nat) : Int)
  (Qa.l0 k k (v0, (v1, ((0 : Int), ((t.1, (t.2.1, (t.2.2.1, (t.2.2.2.1, ())))), ()))))).bind fun t4 => (match t4 with
 | .inl t5 => (K (t5.1, (t5.2.1, ())))
 | .inr (t6) => (let v7 : Qe7 := t6.1.2.2.1
  let v8 : Int := (((List.length v7) : Nat) : Int)
  (Qa.l1 k k (v7, (v8, ((0 : Int), ((t6.1.1, (t6.1.2.1, (t6.1.2.2.1, (t6.1.2.2.2.1, ())))), ()))))).bind fun t11 => (match t11 with
 | .inl t12 => (K (t12.1, (t12.2.1, ())))
 | .inr (t13) => ((Q06 k (t13.1.1, (t13.1.2.1, (t13.1.2.2.1, (t13.1.2.2.2.1, ()))))).bind fun t14 => bif (decide (t14.1 > (4096 : Int))) then (K ((⟨(List.toArray [])⟩ : ByteArray), ((101 : Int), ()))) else ((QA k ).bind fun t15 => let v16 : Int := t13.1.1
  (Qr k v16 (((), ((), ())), ()) t15.2.1).bind fun t17 => let v18 : Qe3 := t13.1.2.1
  let v19 : Int := (((List.length v18) : Nat) : Int)
  (QE k (IntKind.wrap IntKind.u64 v19) (((), ((), ())), ()) t17.2.1).bind fun t20 => let v21 : Qe3 := t13.1.2.1
  let v22 : Int := (((List.length v21) : Nat) : Int)
  (Qa.l2 k k (v21, (v22, ((0 : Int), ((t13.1.1, (t13.1.2.1, (t13.1.2.2.1, (t13.1.2.2.2.1, ())))), ((((), ((), ())), ()), (t20.2.1, ()))))))).bind fun t32 => let v33 : Qe7 := t32.1.2.2.1
  let v34 : Int := (((List.length v33) : Nat) : Int)
  (QE k (IntKind.wrap IntKind.u64 v34) (((), ((), ())), ()) t32.2.2.1).bind fun t35 => let v36 : Qe7 := t32.1.2.2.1
  let v37 : Int := (((List.length v36) : Nat) : Int)
  (Qa.l3 k k (v36, (v37, ((0 : Int), ((t32.1.1, (t32.1.2.1, (t32.1.2.2.1, (t32.1.2.2.2.1, ())))), ((((), ((), ())), ()), (t35.2.1, ()))))))).bind fun t43 => let v44 : Int := t43.1.2.2.2.1
  (Qr k v44 (((), ((), ())), ()) t43.2.2.1).bind fun t45 => (Qp k (((), ((), ())), ()) t45.2.1).bind fun t46 => K (t46.1, ((0 : Int), ())))))))
def Qa (k : Nat) (t : QdZ) : Option Qeb := Qa.c k t some
def Qa.tin : List Ty := [QdU]
def Qa.tout : List Ty := [.str, (.int .i64)]
def Qa.sem (k : Nat) : Qt := QL Qa.tin Qa.tout fun x => Qa k x.1
noncomputable def Qa.ctx (k : Nat) : Ctx := ⟨Tryz.prog, gam [(146, (Q06.sem k)), (33, (QA.sem k)), (36, (Qr.sem k)), (132, (QE.sem k)), (81, (QM.sem k)), (147, (QO.sem k)), (104, (QX.sem k)), (38, (Qp.sem k))]⟩
theorem Qa.gok (k : Nat) : ∀ f, Qo Tryz.prog f ((Qa.ctx k).Γ f) := (Qd (Q06.sem_ok k) (Qd (QA.sem_ok k) (Qd (Qr.sem_ok k) (Qd (QE.sem_ok k) (Qd (QM.sem_ok k) (Qd (QO.sem_ok k) (Qd (QX.sem_ok k) (Qd (Qp.sem_ok k) QU))))))))
theorem Qa.l3.round (k : Nat) : Q0V (Qa.ctx k) (Q0n (Func.code Tryz.f133) [1, 1, 1, 1, 1, 1, 1, 1, 1, 0, 1, 0, 0]) (.nil) Qa.l3.T [.mask [1, 8, 84, 85, 86], .auto 0] Qa.l3.os (Qa.l3.r k) := by
 intro ρ x kn ke; kernel_rfl
theorem Qa.l3.ok (k : Nat) : StOK 0 Tryz.prog (.loop (Q0n (Func.code Tryz.f133) [1, 1, 1, 1, 1, 1, 1, 1, 1, 0, 1, 0, 0])) (QK Qa.l3.T Qa.l3.os (Qa.l3 k k)) :=
 Q0X (C := Qa.ctx k) (Qa.gok k) Tryz.mix Q3.nil (by kernel_rfl) (by kernel_rfl) (by kernel_rfl) (Qa.l3.round k) k
theorem Qa.l2.round (k : Nat) : Q0V (Qa.ctx k) (Q0n (Func.code Tryz.f133) [1, 1, 1, 1, 1, 1, 1, 0, 1, 0, 0]) (.nil) Qa.l2.T [.mask [1, 8, 52, 53, 54], .auto 0] Qa.l2.os (Qa.l2.r k) := by
 intro ρ x kn ke; kernel_rfl
theorem Qa.l2.ok (k : Nat) : StOK 0 Tryz.prog (.loop (Q0n (Func.code Tryz.f133) [1, 1, 1, 1, 1, 1, 1, 0, 1, 0, 0])) (QK Qa.l2.T Qa.l2.os (Qa.l2 k k)) :=
 Q0X (C := Qa.ctx k) (Qa.gok k) Tryz.mix Q3.nil (by kernel_rfl) (by kernel_rfl) (by kernel_rfl) (Qa.l2.round k) k
theorem Qa.l1.round (k : Nat) : Q0V (Qa.ctx k) (Q0n (Func.code Tryz.f133) [1, 1, 0, 1, 0, 0]) (.nil) Qa.l1.T [.mask [1, 26, 27, 28], .auto 0] Qa.l1.os (Qa.l1.r k) := by
 intro ρ x kn ke; kernel_rfl
theorem Qa.l1.ok (k : Nat) : StOK 0 Tryz.prog (.loop (Q0n (Func.code Tryz.f133) [1, 1, 0, 1, 0, 0])) (QK Qa.l1.T Qa.l1.os (Qa.l1 k k)) :=
 Q0X (C := Qa.ctx k) (Qa.gok k) Tryz.mix Q3.nil (by kernel_rfl) (by kernel_rfl) (by kernel_rfl) (Qa.l1.round k) k
theorem Qa.l0.round (k : Nat) : Q0V (Qa.ctx k) (Q0n (Func.code Tryz.f133) [1, 0, 1, 0, 0]) (.nil) Qa.l0.T [.mask [1, 14, 15, 16], .auto 0] Qa.l0.os (Qa.l0.r k) := by
 intro ρ x kn ke; kernel_rfl
theorem Qa.l0.ok (k : Nat) : StOK 0 Tryz.prog (.loop (Q0n (Func.code Tryz.f133) [1, 0, 1, 0, 0])) (QK Qa.l0.T Qa.l0.os (Qa.l0 k k)) :=
 Q0X (C := Qa.ctx k) (Qa.gok k) Tryz.mix Q3.nil (by kernel_rfl) (by kernel_rfl) (by kernel_rfl) (Qa.l0.round k) k
def Qa.ann (k : Nat) : Ann := .node [] none (.nil) (.node [] none (.node [] none (.nil) (.node [] none (.node [.mask [1, 14, 15, 16], .auto 0] (some (QK Qa.l0.T Qa.l0.os (Qa.l0 k k))) .nil .nil) (.nil))) (.node [] none (.node [] none (.nil) (.node [] none (.node [.mask [1, 26, 27, 28], .auto 0] (some (QK Qa.l1.T Qa.l1.os (Qa.l1 k k))) .nil .nil) (.nil))) (.node [] none (.nil) (.node [] none (.nil) (.node [] none (.nil) (.node [] none (.nil) (.node [] none (.node [] none (.nil) (.node [] none (.node [.mask [1, 8, 52, 53, 54], .auto 0] (some (QK Qa.l2.T Qa.l2.os (Qa.l2 k k))) .nil .nil) (.nil))) (.node [] none (.nil) (.node [] none (.node [] none (.nil) (.node [] none (.node [.mask [1, 8, 84, 85, 86], .auto 0] (some (QK Qa.l3.T Qa.l3.os (Qa.l3 k k))) .nil .nil) (.nil))) (.nil))))))))))
theorem Qa.body (k : Nat) : Q0C (Qa.ctx k) Tryz.f133 (Func.code Tryz.f133) (Qa.ann k) Qa.tin Qa.tout (fun x K => Qa.c k x.1 K) := by
 intro ρ x K; kernel_rfl
theorem Qa.sem_ok (k : Nat) : Qo Tryz.prog 133 (Qa.sem k) :=
 Qw (C := Qa.ctx k) (Qa.gok k) Tryz.mix (c := Func.code Tryz.f133) (ann := Qa.ann k) (tin := Qa.tin) (tout := Qa.tout) (fun x K => Qa.c k x.1 K) Tryz.func133 (by kernel_rfl) (by kernel_rfl) (Q3.seq Q3.nil (Q3.seq (Q3.seq Q3.nil (Q3.block (Q3.loop (by kernel_rfl) (Qa.l0.ok k)))) (Q3.seq (Q3.seq Q3.nil (Q3.block (Q3.loop (by kernel_rfl) (Qa.l1.ok k)))) (Q3.seq Q3.nil (Q3.seq Q3.nil (Q3.seq Q3.nil (Q3.seq Q3.nil (Q3.seq (Q3.seq Q3.nil (Q3.block (Q3.loop (by kernel_rfl) (Qa.l2.ok k)))) (Q3.seq Q3.nil (Q3.seq (Q3.seq Q3.nil (Q3.block (Q3.loop (by kernel_rfl) (Qa.l3.ok k)))) Q3.nil)))))))))) (Qa.body k)
def Q1A.c (k : Nat) {ρ : Type} (t : QdZ) (K : (List Int) × Int × Unit → Option ρ) : Option ρ :=
 (Qa k (t.1, (t.2.1, (t.2.2.1, (t.2.2.2.1, ()))))).bind fun t0 => let v1 : ByteArray := t0.1
 let v2 : Int := t0.2.1
 bif (v2 != (0 : Int)) then (let v3 : (List Int) := (List.replicate 32 (0 : Int))
 K (v3, (v2, ()))) else ((Q0D k v1).bind fun t4 => K (t4.1, ((0 : Int), ())))
def Q1A (k : Nat) (t : QdZ) : Option ((List Int) × Int × Unit) := Q1A.c k t some
def Q1A.tin : List Ty := [QdU]
def Q1A.tout : List Ty := [Qec, (.int .i64)]
def Q1A.sem (k : Nat) : Qt := QL Q1A.tin Q1A.tout fun x => Q1A k x.1
noncomputable def Q1A.ctx (k : Nat) : Ctx := ⟨Tryz.prog, gam [(133, (Qa.sem k)), (91, (Q0D.sem k))]⟩
theorem Q1A.gok (k : Nat) : ∀ f, Qo Tryz.prog f ((Q1A.ctx k).Γ f) := (Qd (Qa.sem_ok k) (Qd (Q0D.sem_ok k) QU))
def Q1A.ann (k : Nat) : Ann := .nil
theorem Q1A.body (k : Nat) : Q0C (Q1A.ctx k) Tryz.f130 (Func.code Tryz.f130) (Q1A.ann k) Q1A.tin Q1A.tout (fun x K => Q1A.c k x.1 K) := by
 intro ρ x K; kernel_rfl
theorem Q1A.sem_ok (k : Nat) : Qo Tryz.prog 130 (Q1A.sem k) :=
 Qw (C := Q1A.ctx k) (Q1A.gok k) Tryz.mix (c := Func.code Tryz.f130) (ann := Q1A.ann k) (tin := Q1A.tin) (tout := Q1A.tout) (fun x K => Q1A.c k x.1 K) Tryz.func130 (by kernel_rfl) (by kernel_rfl) Q3.nil (Q1A.body k)
def Qh.c (k : Nat) {ρ : Type} (s : (List (List Int))) (K : (List (List Int)) × Unit → Option ρ) : Option ρ :=
 bif (Nat.ble 1 (List.length s)) then (bif (Nat.ble ((0 + (List.length s)) * 32) 140737488355328) then (K (((List.replicate 0 (List.replicate 32 (0 : Int))) ++ s), ())) else (none)) else (none)
def Qh (k : Nat) (s : (List (List Int))) : Option ((List (List Int)) × Unit) := Qh.c k s some
def Qh.tin : List Ty := [Qea]
def Qh.tout : List Ty := [Qea]
def Qh.sem (k : Nat) : Qt := QL Qh.tin Qh.tout fun x => Qh k x.1
noncomputable def Qh.ctx (k : Nat) : Ctx := ⟨Tryz.prog, gam []⟩
theorem Qh.gok (k : Nat) : ∀ f, Qo Tryz.prog f ((Qh.ctx k).Γ f) := QU
def Qh.ann (k : Nat) : Ann := .nil
theorem Qh.body (k : Nat) : Q0C (Qh.ctx k) Tryz.f156 (Func.code Tryz.f156) (Qh.ann k) Qh.tin Qh.tout (fun x K => Qh.c k x.1 K) := by
 intro ρ x K; kernel_rfl
theorem Qh.sem_ok (k : Nat) : Qo Tryz.prog 156 (Qh.sem k) :=
 Qw (C := Qh.ctx k) (Qh.gok k) Tryz.mix (c := Func.code Tryz.f156) (ann := Qh.ann k) (tin := Qh.tin) (tout := Qh.tout) (fun x K => Qh.c k x.1 K) Tryz.func156 (by kernel_rfl) (by kernel_rfl) Q3.nil (Qh.body k)
def Q0E.c (k : Nat) {ρ : Type} (a : (List Int)) (b : (List Int)) (K : (List Int) × Unit → Option ρ) : Option ρ :=
 let v0 : ByteArray := (bytesOf (List.take 32 (List.drop 0 a)))
 let v1 : ByteArray := (bytesOf (List.take 32 (List.drop 0 b)))
 bif (Nat.ble ((ByteArray.size v0) + (ByteArray.size v1)) 9223372036854775807) then (let v2 : ByteArray := (v0 ++ v1)
 (Q0D k v2).bind fun t3 => K (t3.1, ())) else (none)
def Q0E (k : Nat) (a : (List Int)) (b : (List Int)) : Option Qee := Q0E.c k a b some
def Q0E.tin : List Ty := [Qec, Qec]
def Q0E.tout : List Ty := [Qec]
def Q0E.sem (k : Nat) : Qt := QL Q0E.tin Q0E.tout fun x => Q0E k x.1 x.2.1
noncomputable def Q0E.ctx (k : Nat) : Ctx := ⟨Tryz.prog, gam [(91, (Q0D.sem k))]⟩
theorem Q0E.gok (k : Nat) : ∀ f, Qo Tryz.prog f ((Q0E.ctx k).Γ f) := (Qd (Q0D.sem_ok k) QU)
def Q0E.ann (k : Nat) : Ann := .nil
theorem Q0E.body (k : Nat) : Q0C (Q0E.ctx k) Tryz.f166 (Func.code Tryz.f166) (Q0E.ann k) Q0E.tin Q0E.tout (fun x K => Q0E.c k x.1 x.2.1 K) := by
 intro ρ x K; kernel_rfl
theorem Q0E.sem_ok (k : Nat) : Qo Tryz.prog 166 (Q0E.sem k) :=
 Qw (C := Q0E.ctx k) (Q0E.gok k) Tryz.mix (c := Func.code Tryz.f166) (ann := Q0E.ann k) (tin := Q0E.tin) (tout := Q0E.tout) (fun x K => Q0E.c k x.1 x.2.1 K) Tryz.func166 (by kernel_rfl) (by kernel_rfl) Q3.nil (Q0E.body k)
abbrev Qz.l0.σ : Type := (List (List Int)) × Int × (List (List Int)) × Unit
abbrev Qz.l0.τ : Type := ((List (List Int)) × Unit)
def Qz.l0.r (k : Nat) {ρ : Type} (x : Qz.l0.σ) (kn : Qz.l0.σ → Option ρ) (ke : Qz.l0.τ → Option ρ) : Option ρ :=
 let v0 : Int := (((List.length x.1) : Nat) : Int)
 bif (decide (x.2.1 < v0)) then (bif (decide (((0 : Int) ≤ x.2.1) ∧ (x.2.1 < (((List.length x.1) : Nat) : Int)))) then (let v1 : (List Int) := (List.getD x.1 (Int.toNat x.2.1) (List.replicate 32 (0 : Int)))
 let v2 : Int := (IntKind.wrap IntKind.i64 (x.2.1 + (1 : Int)))
 let v3 : Int := (((List.length x.1) : Nat) : Int)
 let v4 : Int := (IntKind.wrap IntKind.i64 (v3 - (1 : Int)))
 let v5 : Int := (if (v4 < v2) then v4 else v2)
 bif (decide (((0 : Int) ≤ v5) ∧ (v5 < (((List.length x.1) : Nat) : Int)))) then (let v6 : (List Int) := (List.getD x.1 (Int.toNat v5) (List.replicate 32 (0 : Int)))
 (Q0E k v1 v6).bind fun t7 => bif (Nat.ble (((List.length x.2.2.1) + (List.length (List.set (List.replicate 1 (List.replicate 32 (0 : Int))) 0 t7.1))) * 32) 140737488355328) then (let v8 : Int := (IntKind.wrap IntKind.i64 (x.2.1 + (2 : Int)))
 kn (x.1, (v8, ((x.2.2.1 ++ (List.set (List.replicate 1 (List.replicate 32 (0 : Int))) 0 t7.1)), ())))) else (none)) else (none)) else (none)) else (ke (x.2.2.1, ()))
def Qz.l0 (k : Nat) : Nat → Qz.l0.σ → Option Qz.l0.τ := Q0T (Qz.l0.r k)
def Qz.l0.T : StT := ⟨.dat Qea :: us 2 ++ .vsl 0 :: .dat (.int .i64) :: us 24, [.vec Qec]⟩
def Qz.l0.os : List Out := [⟨(.exit 0), [.mask [3], .auto 0], ⟨us 3 ++ .vsl 0 :: us 25, [.vec Qec]⟩⟩]
def Qz.c (k : Nat) {ρ : Type} (l : (List (List Int))) (K : (List (List Int)) × Unit → Option ρ) : Option ρ :=
 (Qz.l0 k k (l, ((0 : Int), ([], ())))).bind fun t9 => K (t9.1, ())
def Qz (k : Nat) (l : (List (List Int))) : Option ((List (List Int)) × Unit) := Qz.c k l some
def Qz.tin : List Ty := [Qea]
def Qz.tout : List Ty := [Qea]
def Qz.sem (k : Nat) : Qt := QL Qz.tin Qz.tout fun x => Qz k x.1
noncomputable def Qz.ctx (k : Nat) : Ctx := ⟨Tryz.prog, gam [(166, (Q0E.sem k))]⟩
theorem Qz.gok (k : Nat) : ∀ f, Qo Tryz.prog f ((Qz.ctx k).Γ f) := (Qd (Q0E.sem_ok k) QU)
theorem Qz.l0.round (k : Nat) : Q0V (Qz.ctx k) (Q0n (Func.code Tryz.f157) [1, 1, 0, 1, 0, 0]) (.nil) Qz.l0.T [.mask [0, 3, 4], .auto 0] Qz.l0.os (Qz.l0.r k) := by
 intro ρ x kn ke; kernel_rfl
theorem Qz.l0.ok (k : Nat) : StOK 0 Tryz.prog (.loop (Q0n (Func.code Tryz.f157) [1, 1, 0, 1, 0, 0])) (QK Qz.l0.T Qz.l0.os (Qz.l0 k k)) :=
 Q0X (C := Qz.ctx k) (Qz.gok k) Tryz.mix Q3.nil (by kernel_rfl) (by kernel_rfl) (by kernel_rfl) (Qz.l0.round k) k
def Qz.ann (k : Nat) : Ann := .node [] none (.nil) (.node [] none (.nil) (.node [] none (.node [] none (.nil) (.node [] none (.node [.own (.slot 3) Qec] (some (QK Qz.l0.T Qz.l0.os (Qz.l0 k k))) .nil .nil) (.nil))) (.nil)))
theorem Qz.body (k : Nat) : Q0C (Qz.ctx k) Tryz.f157 (Func.code Tryz.f157) (Qz.ann k) Qz.tin Qz.tout (fun x K => Qz.c k x.1 K) := by
 intro ρ x K; kernel_rfl
theorem Qz.sem_ok (k : Nat) : Qo Tryz.prog 157 (Qz.sem k) :=
 Qw (C := Qz.ctx k) (Qz.gok k) Tryz.mix (c := Func.code Tryz.f157) (ann := Qz.ann k) (tin := Qz.tin) (tout := Qz.tout) (fun x K => Qz.c k x.1 K) Tryz.func157 (by kernel_rfl) (by kernel_rfl) (Q3.seq Q3.nil (Q3.seq Q3.nil (Q3.seq (Q3.seq Q3.nil (Q3.block (Q3.loop (by kernel_rfl) (Qz.l0.ok k)))) Q3.nil))) (Qz.body k)
abbrev Qs.l0.σ : Type := (List (List Int)) × (List (List (List Int))) × Unit
abbrev Qs.l0.τ : Type := ((List (List (List Int))) × Unit)
def Qs.l0.r (k : Nat) {ρ : Type} (x : Qs.l0.σ) (kn : Qs.l0.σ → Option ρ) (ke : Qs.l0.τ → Option ρ) : Option ρ :=
 let v2 : Int := (((List.length x.1) : Nat) : Int)
 bif (decide (v2 > (1 : Int))) then ((Qz k x.1).bind fun t3 => bif (Nat.ble (((List.length x.2.1) + (List.length (List.set (List.replicate 1 []) 0 t3.1))) * 24) 140737488355328) then (kn (t3.1, ((x.2.1 ++ (List.set (List.replicate 1 []) 0 t3.1)), ()))) else (none)) else (ke (x.2.1, ()))
def Qs.l0 (k : Nat) : Nat → Qs.l0.σ → Option Qs.l0.τ := Q0T (Qs.l0.r k)
def Qs.l0.T : StT := ⟨.dat Qea :: us 2 ++ .vsl 0 :: us 16, [.vec Qea]⟩
def Qs.l0.os : List Out := [⟨(.exit 0), [.mask [3], .auto 0], ⟨us 3 ++ .vsl 0 :: us 16, [.vec Qea]⟩⟩]
def Qs.c (k : Nat) {ρ : Type} (l : (List (List Int))) (K : (List (List (List Int))) × Unit → Option ρ) : Option ρ :=
 let v0 : Int := (((List.length l) : Nat) : Int)
 bif (v0 == (0 : Int)) then (K ([], ())) else ((Qh k l).bind fun t1 => (Qs.l0 k k (l, ((List.set (List.replicate 1 []) 0 t1.1), ()))).bind fun t4 => K (t4.1, ()))
def Qs (k : Nat) (l : (List (List Int))) : Option ((List (List (List Int))) × Unit) := Qs.c k l some
def Qs.tin : List Ty := [Qea]
def Qs.tout : List Ty := [Qe8]
def Qs.sem (k : Nat) : Qt := QL Qs.tin Qs.tout fun x => Qs k x.1
noncomputable def Qs.ctx (k : Nat) : Ctx := ⟨Tryz.prog, gam [(156, (Qh.sem k)), (157, (Qz.sem k))]⟩
theorem Qs.gok (k : Nat) : ∀ f, Qo Tryz.prog f ((Qs.ctx k).Γ f) := (Qd (Qh.sem_ok k) (Qd (Qz.sem_ok k) QU))
theorem Qs.l0.round (k : Nat) : Q0V (Qs.ctx k) (Q0n (Func.code Tryz.f144) [1, 1, 1, 0, 0, 0]) (.nil) Qs.l0.T [.mask [0, 3], .auto 0] Qs.l0.os (Qs.l0.r k) := by
 intro ρ x kn ke; kernel_rfl
theorem Qs.l0.ok (k : Nat) : StOK 0 Tryz.prog (.loop (Q0n (Func.code Tryz.f144) [1, 1, 1, 0, 0, 0])) (QK Qs.l0.T Qs.l0.os (Qs.l0 k k)) :=
 Q0X (C := Qs.ctx k) (Qs.gok k) Tryz.mix Q3.nil (by kernel_rfl) (by kernel_rfl) (by kernel_rfl) (Qs.l0.round k) k
def Qs.ann (k : Nat) : Ann := .node [] none (.nil) (.node [] none (.nil) (.node [] none (.nil) (.node [] none (.node [] none (.node [.mask [0, 3], .auto 0] (some (QK Qs.l0.T Qs.l0.os (Qs.l0 k k))) .nil .nil) (.nil)) (.nil))))
theorem Qs.body (k : Nat) : Q0C (Qs.ctx k) Tryz.f144 (Func.code Tryz.f144) (Qs.ann k) Qs.tin Qs.tout (fun x K => Qs.c k x.1 K) := by
 intro ρ x K; kernel_rfl
theorem Qs.sem_ok (k : Nat) : Qo Tryz.prog 144 (Qs.sem k) :=
 Qw (C := Qs.ctx k) (Qs.gok k) Tryz.mix (c := Func.code Tryz.f144) (ann := Qs.ann k) (tin := Qs.tin) (tout := Qs.tout) (fun x K => Qs.c k x.1 K) Tryz.func144 (by kernel_rfl) (by kernel_rfl) (Q3.seq Q3.nil (Q3.seq Q3.nil (Q3.seq Q3.nil (Q3.seq (Q3.block (Q3.loop (by kernel_rfl) (Qs.l0.ok k))) Q3.nil)))) (Qs.body k)
abbrev Qm.l1.σ : Type := Bool × (List (List (List Int))) × (List (List Int)) × Int × (List (List (List Int))) × Int × Int × (List Int) × Unit
abbrev Qm.l1.τ : Type := (Bool × (List (List (List Int))) × (List (List (List Int))) × Int × Int × (List Int) × Unit)
def Qm.l1.r (k : Nat) {ρ : Type} (x : Qm.l1.σ) (kn : Qm.l1.σ → Option ρ) (ke : Qm.l1.τ → Option ρ) : Option ρ :=
 let v3 : Int := (IntKind.wrap IntKind.i64 (x.2.2.2.1 + (1 : Int)))
 let v4 : Int := (((List.length x.2.2.1) : Nat) : Int)
 bif (decide (v3 < v4)) then (bif x.1 then (let v5 : Int := (IntKind.wrap IntKind.i64 (x.2.2.2.1 + (2 : Int)))
 kn (true, (x.2.1, (x.2.2.1, (v5, (x.2.2.2.2.1, (x.2.2.2.2.2.1, (x.2.2.2.2.2.2.1, (x.2.2.2.2.2.2.2.1, ()))))))))) else (bif (decide (((0 : Int) ≤ x.2.2.2.1) ∧ (x.2.2.2.1 < (((List.length x.2.2.1) : Nat) : Int)))) then (let v6 : (List Int) := (List.getD x.2.2.1 (Int.toNat x.2.2.2.1) (List.replicate 32 (0 : Int)))
 let v7 : Int := (IntKind.wrap IntKind.i64 (x.2.2.2.1 + (1 : Int)))
 bif (decide (((0 : Int) ≤ v7) ∧ (v7 < (((List.length x.2.2.1) : Nat) : Int)))) then (let v8 : (List Int) := (List.getD x.2.2.1 (Int.toNat v7) (List.replicate 32 (0 : Int)))
 let v9 : Int := (IntKind.wrap IntKind.i64 (x.2.2.2.1 + (2 : Int)))
 kn ((decide (v6 = v8)), (x.2.1, (x.2.2.1, (v9, (x.2.2.2.2.1, (x.2.2.2.2.2.1, (x.2.2.2.2.2.2.1, (x.2.2.2.2.2.2.2.1, ()))))))))) else (none)) else (none))) else (ke (x.1, (x.2.1, (x.2.2.2.2.1, (x.2.2.2.2.2.1, (x.2.2.2.2.2.2.1, (x.2.2.2.2.2.2.2.1, ())))))))
def Qm.l1 (k : Nat) : Nat → Qm.l1.σ → Option Qm.l1.τ := Q0T (Qm.l1.r k)
def Qm.l1.T : StT := ⟨us 2 ++ .ptr 0 [] :: us 1 ++ .dat .bool :: .dat Qe8 :: us 1 ++ .dat Qea :: .dat (.int .i64) :: us 2 ++ .dat Qe8 :: .dat (.int .i64) :: .dat (.int .i64) :: us 37, [.dat Qec]⟩
def Qm.l1.os : List Out := [⟨(.exit 2), [.mask [2, 4, 5, 11, 12, 13], .auto 0], ⟨us 2 ++ .ptr 0 [] :: us 1 ++ .dat .bool :: .dat Qe8 :: us 5 ++ .dat Qe8 :: .dat (.int .i64) :: .dat (.int .i64) :: us 37, [.dat Qec]⟩⟩]
abbrev Qm.l0.σ : Type := Bool × (List (List (List Int))) × (List (List (List Int))) × Int × Int × (List Int) × Unit
abbrev Qm.l0.τ : Type := (Bool × (List (List (List Int))) × (List Int) × Unit)
def Qm.l0.r (k : Nat) {ρ : Type} (x : Qm.l0.σ) (kn : Qm.l0.σ → Option ρ) (ke : Qm.l0.τ → Option ρ) : Option ρ :=
 bif (decide (x.2.2.2.2.1 < x.2.2.2.1)) then (bif (decide (((0 : Int) ≤ x.2.2.2.2.1) ∧ (x.2.2.2.2.1 < (((List.length x.2.2.1) : Nat) : Int)))) then (let v2 : (List (List Int)) := (List.getD x.2.2.1 (Int.toNat x.2.2.2.2.1) [])
 (Qm.l1 k k (x.1, (x.2.1, (v2, ((0 : Int), (x.2.2.1, (x.2.2.2.1, (x.2.2.2.2.1, (x.2.2.2.2.2.1, ()))))))))).bind fun t10 => let v11 : Int := (IntKind.wrap IntKind.i64 (t10.2.2.2.2.1 + (1 : Int)))
 kn (t10.1, (t10.2.1, (t10.2.2.1, (t10.2.2.2.1, (v11, (t10.2.2.2.2.2.1, ()))))))) else (none)) else (ke (x.1, (x.2.1, (x.2.2.2.2.2.1, ()))))
def Qm.l0 (k : Nat) : Nat → Qm.l0.σ → Option Qm.l0.τ := Q0T (Qm.l0.r k)
def Qm.l0.T : StT := ⟨us 2 ++ .ptr 0 [] :: us 1 ++ .dat .bool :: .dat Qe8 :: us 5 ++ .dat Qe8 :: .dat (.int .i64) :: .dat (.int .i64) :: us 37, [.dat Qec]⟩
def Qm.l0.os : List Out := [⟨(.exit 0), [.mask [2, 4, 5], .auto 0], ⟨us 2 ++ .ptr 0 [] :: us 1 ++ .dat .bool :: .dat Qe8 :: us 45, [.dat Qec]⟩⟩]
def Qm.c (k : Nat) {ρ : Type} (l : (List (List Int))) (K : (List Int) × Bool × Unit → Option ρ) : Option ρ :=
 (Qs k l).bind fun t0 => let v1 : Int := (((List.length t0.1) : Nat) : Int)
 (Qm.l0 k k (false, (t0.1, (t0.1, (v1, ((0 : Int), ((List.replicate 32 (0 : Int)), ()))))))).bind fun t12 => let v13 : Int := (((List.length t12.2.1) : Nat) : Int)
 bif (v13 == (0 : Int)) then (let v14 : (List Int) := (List.replicate 32 (0 : Int))
 K (v14, (false, ()))) else (let v15 : Int := (((List.length t12.2.1) : Nat) : Int)
 let v16 : Int := (IntKind.wrap IntKind.i64 (v15 - (1 : Int)))
 bif (decide (((0 : Int) ≤ v16) ∧ (v16 < (((List.length t12.2.1) : Nat) : Int)))) then (let v17 : (List (List Int)) := (List.getD t12.2.1 (Int.toNat v16) [])
 bif (decide (((0 : Int) ≤ (0 : Int)) ∧ ((0 : Int) < (((List.length v17) : Nat) : Int)))) then (let v18 : (List Int) := (List.getD v17 0 (List.replicate 32 (0 : Int)))
 K (v18, (t12.1, ()))) else (none)) else (none))
def Qm (k : Nat) (l : (List (List Int))) : Option ((List Int) × Bool × Unit) := Qm.c k l some
def Qm.tin : List Ty := [Qea]
def Qm.tout : List Ty := [Qec, .bool]
def Qm.sem (k : Nat) : Qt := QL Qm.tin Qm.tout fun x => Qm k x.1
noncomputable def Qm.ctx (k : Nat) : Ctx := ⟨Tryz.prog, gam [(144, (Qs.sem k))]⟩
theorem Qm.gok (k : Nat) : ∀ f, Qo Tryz.prog f ((Qm.ctx k).Γ f) := (Qd (Qs.sem_ok k) QU)
theorem Qm.l1.round (k : Nat) : Q0V (Qm.ctx k) (Q0n (Func.code Tryz.f131) [1, 1, 1, 0, 1, 0, 0, 1, 1, 0, 0, 1, 1, 0, 0]) (.nil) Qm.l1.T [.mask [2, 4, 5, 7, 8, 11, 12, 13], .auto 0] Qm.l1.os (Qm.l1.r k) := by
 intro ρ x kn ke; kernel_rfl
theorem Qm.l1.ok (k : Nat) : StOK 0 Tryz.prog (.loop (Q0n (Func.code Tryz.f131) [1, 1, 1, 0, 1, 0, 0, 1, 1, 0, 0, 1, 1, 0, 0])) (QK Qm.l1.T Qm.l1.os (Qm.l1 k k)) :=
 Q0X (C := Qm.ctx k) (Qm.gok k) Tryz.mix Q3.nil (by kernel_rfl) (by kernel_rfl) (by kernel_rfl) (Qm.l1.round k) k
theorem Qm.l0.round (k : Nat) : Q0V (Qm.ctx k) (Q0n (Func.code Tryz.f131) [1, 1, 1, 0, 1, 0, 0]) (.node [] none (.nil) (.node [] none (.nil) (.node [] none (.node [] none (.node [] none (.nil) (.node [] none (.nil) (.node [] none (.node [.mask [2, 4, 5, 7, 8, 11, 12, 13], .auto 0] (some (QK Qm.l1.T Qm.l1.os (Qm.l1 k k))) .nil .nil) (.nil)))) (.nil)) (.nil)))) Qm.l0.T [.mask [2, 4, 5, 11, 12, 13], .auto 0] Qm.l0.os (Qm.l0.r k) := by
 intro ρ x kn ke; kernel_rfl
theorem Qm.l0.ok (k : Nat) : StOK 0 Tryz.prog (.loop (Q0n (Func.code Tryz.f131) [1, 1, 1, 0, 1, 0, 0])) (QK Qm.l0.T Qm.l0.os (Qm.l0 k k)) :=
 Q0X (C := Qm.ctx k) (Qm.gok k) Tryz.mix (Q3.seq Q3.nil (Q3.seq Q3.nil (Q3.seq (Q3.block (Q3.seq Q3.nil (Q3.seq Q3.nil (Q3.block (Q3.loop (by kernel_rfl) (Qm.l1.ok k)))))) Q3.nil))) (by kernel_rfl) (by kernel_rfl) (by kernel_rfl) (Qm.l0.round k) k
def Qm.ann (k : Nat) : Ann := .node [] none (.nil) (.node [] none (.nil) (.node [] none (.nil) (.node [] none (.node [] none (.nil) (.node [] none (.node [.mask [2, 4, 5, 11, 12, 13], .auto 0] (some (QK Qm.l0.T Qm.l0.os (Qm.l0 k k))) .nil .nil) (.nil))) (.nil))))
theorem Qm.body (k : Nat) : Q0C (Qm.ctx k) Tryz.f131 (Func.code Tryz.f131) (Qm.ann k) Qm.tin Qm.tout (fun x K => Qm.c k x.1 K) := by
 intro ρ x K; kernel_rfl
theorem Qm.sem_ok (k : Nat) : Qo Tryz.prog 131 (Qm.sem k) :=
 Qw (C := Qm.ctx k) (Qm.gok k) Tryz.mix (c := Func.code Tryz.f131) (ann := Qm.ann k) (tin := Qm.tin) (tout := Qm.tout) (fun x K => Qm.c k x.1 K) Tryz.func131 (by kernel_rfl) (by kernel_rfl) (Q3.seq Q3.nil (Q3.seq Q3.nil (Q3.seq Q3.nil (Q3.seq (Q3.seq Q3.nil (Q3.block (Q3.loop (by kernel_rfl) (Qm.l0.ok k)))) Q3.nil)))) (Qm.body k)
abbrev QZ.l0.σ : Type := QdY × Int × Int × (List Int) × (List (List Int)) × Unit
abbrev QZ.l0.τ : Type := ((List Int) × (List (List Int)) × Unit)
def QZ.l0.r (k : Nat) {ρ : Type} (x : QZ.l0.σ) (kn : QZ.l0.σ → Option ρ) (ke : QZ.l0.τ → Option ρ) : Option ρ :=
 bif (decide (x.2.2.1 < x.2.1)) then (bif (decide (((0 : Int) ≤ x.2.2.1) ∧ (x.2.2.1 < (((List.length x.1) : Nat) : Int)))) then ((Q1A k ((List.getD x.1 (Int.toNat x.2.2.1) ((0 : Int), ([], ([], ((0 : Int), ()))))).1, ((List.getD x.1 (Int.toNat x.2.2.1) ((0 : Int), ([], ([], ((0 : Int), ()))))).2.1, ((List.getD x.1 (Int.toNat x.2.2.1) ((0 : Int), ([], ([], ((0 : Int), ()))))).2.2.1, ((List.getD x.1 (Int.toNat x.2.2.1) ((0 : Int), ([], ([], ((0 : Int), ()))))).2.2.2.1, ()))))).bind fun t2 => let v3 : (List Int) := t2.1
 let v4 : Int := t2.2.1
 bif (decide (((0 : Int) ≤ x.2.2.1) ∧ (x.2.2.1 < (((List.length x.2.2.2.2.1) : Nat) : Int)))) then (let v5 : Int := (IntKind.wrap IntKind.i64 (x.2.2.1 + (1 : Int)))
 kn (x.1, (x.2.1, (v5, (x.2.2.2.1, ((List.set x.2.2.2.2.1 (Int.toNat x.2.2.1) v3), ())))))) else (none)) else (none)) else (ke (x.2.2.2.1, (x.2.2.2.2.1, ())))
def QZ.l0 (k : Nat) : Nat → QZ.l0.σ → Option QZ.l0.τ := Q0T (QZ.l0.r k)
def QZ.l0.T : StT := ⟨us 2 ++ .ptr 0 [] :: us 1 ++ .vsl 1 :: us 5 ++ .dat QdS :: .dat (.int .i64) :: .dat (.int .i64) :: us 17, [.dat Qec, .vec Qec]⟩
def QZ.l0.os : List Out := [⟨(.exit 0), [.mask [2, 4], .auto 0], ⟨us 2 ++ .ptr 0 [] :: us 1 ++ .vsl 1 :: us 25, [.dat Qec, .vec Qec]⟩⟩]
def QZ.c (k : Nat) {ρ : Type} (txs : QdY) (K : (List Int) × Bool × Unit → Option ρ) : Option ρ :=
 let v0 : Int := (((List.length txs) : Nat) : Int)
 bif ((decide (((0 : Int) ≤ v0) ∧ (v0 ≤ v0))) && (Nat.ble ((Int.toNat v0) * 32) 140737488355328)) then (let v1 : Int := (((List.length txs) : Nat) : Int)
 (QZ.l0 k k (txs, (v1, ((0 : Int), ((List.replicate 32 (0 : Int)), ((List.replicate (Int.toNat v0) (List.replicate 32 (0 : Int))), ())))))).bind fun t6 => (Qm k t6.2.1).bind fun t7 => let v8 : (List Int) := t7.1
 K (v8, (t7.2.1, ()))) else (none)
def QZ (k : Nat) (txs : QdY) : Option ((List Int) × Bool × Unit) := QZ.c k txs some
def QZ.tin : List Ty := [QdS]
def QZ.tout : List Ty := [Qec, .bool]
def QZ.sem (k : Nat) : Qt := QL QZ.tin QZ.tout fun x => QZ k x.1
noncomputable def QZ.ctx (k : Nat) : Ctx := ⟨Tryz.prog, gam [(130, (Q1A.sem k)), (131, (Qm.sem k))]⟩
theorem QZ.gok (k : Nat) : ∀ f, Qo Tryz.prog f ((QZ.ctx k).Γ f) := (Qd (Q1A.sem_ok k) (Qd (Qm.sem_ok k) QU))
theorem QZ.l0.round (k : Nat) : Q0V (QZ.ctx k) (Q0n (Func.code Tryz.f114) [1, 1, 0, 1, 0, 0]) (.nil) QZ.l0.T [.mask [2, 4, 10, 11, 12], .auto 0] QZ.l0.os (QZ.l0.r k) := by
 intro ρ x kn ke; kernel_rfl
theorem QZ.l0.ok (k : Nat) : StOK 0 Tryz.prog (.loop (Q0n (Func.code Tryz.f114) [1, 1, 0, 1, 0, 0])) (QK QZ.l0.T QZ.l0.os (QZ.l0 k k)) :=
 Q0X (C := QZ.ctx k) (QZ.gok k) Tryz.mix Q3.nil (by kernel_rfl) (by kernel_rfl) (by kernel_rfl) (QZ.l0.round k) k
def QZ.ann (k : Nat) : Ann := .node [] none (.nil) (.node [] none (.nil) (.node [] none (.node [] none (.nil) (.node [] none (.node [.mask [2, 4, 10, 11, 12], .auto 0] (some (QK QZ.l0.T QZ.l0.os (QZ.l0 k k))) .nil .nil) (.nil))) (.nil)))
theorem QZ.body (k : Nat) : Q0C (QZ.ctx k) Tryz.f114 (Func.code Tryz.f114) (QZ.ann k) QZ.tin QZ.tout (fun x K => QZ.c k x.1 K) := by
 intro ρ x K; kernel_rfl
theorem QZ.sem_ok (k : Nat) : Qo Tryz.prog 114 (QZ.sem k) :=
 Qw (C := QZ.ctx k) (QZ.gok k) Tryz.mix (c := Func.code Tryz.f114) (ann := QZ.ann k) (tin := QZ.tin) (tout := QZ.tout) (fun x K => QZ.c k x.1 K) Tryz.func114 (by kernel_rfl) (by kernel_rfl) (Q3.seq Q3.nil (Q3.seq Q3.nil (Q3.seq (Q3.seq Q3.nil (Q3.block (Q3.loop (by kernel_rfl) (QZ.l0.ok k)))) Q3.nil))) (QZ.body k)
def Q0w.c (k : Nat) {ρ : Type} (t : QdZ) (K : QdZ × Unit → Option ρ) : Option ρ :=
 let v0 : Qe3 := t.2.1
 bif (Nat.ble ((List.length v0) * 64) 140737488355328) then (let v1 : Qe7 := t.2.2.1
 bif (Nat.ble ((List.length v1) * 24) 140737488355328) then (K ((t.1, (v0, (v1, (t.2.2.2.1, ())))), ())) else (none)) else (none)
def Q0w (k : Nat) (t : QdZ) : Option QdX := Q0w.c k t some
def Q0w.tin : List Ty := [QdU]
def Q0w.tout : List Ty := [QdU]
def Q0w.sem (k : Nat) : Qt := QL Q0w.tin Q0w.tout fun x => Q0w k x.1
noncomputable def Q0w.ctx (k : Nat) : Ctx := ⟨Tryz.prog, gam []⟩
theorem Q0w.gok (k : Nat) : ∀ f, Qo Tryz.prog f ((Q0w.ctx k).Γ f) := QU
def Q0w.ann (k : Nat) : Ann := .nil
theorem Q0w.body (k : Nat) : Q0C (Q0w.ctx k) Tryz.f115 (Func.code Tryz.f115) (Q0w.ann k) Q0w.tin Q0w.tout (fun x K => Q0w.c k x.1 K) := by
 intro ρ x K; kernel_rfl
theorem Q0w.sem_ok (k : Nat) : Qo Tryz.prog 115 (Q0w.sem k) :=
 Qw (C := Q0w.ctx k) (Q0w.gok k) Tryz.mix (c := Func.code Tryz.f115) (ann := Q0w.ann k) (tin := Q0w.tin) (tout := Q0w.tout) (fun x K => Q0w.c k x.1 K) Tryz.func115 (by kernel_rfl) (by kernel_rfl) Q3.nil (Q0w.body k)
abbrev QC.τ : Type := (Int × Qe9 × (List Int) × Unit)
def QC.c (k : Nat) {ρ : Type} (b0 : Qe9) (b1 : (List Int)) (K : QC.τ → Option ρ) : Option ρ :=
 let v0 : Int := (((List.length b1) : Nat) : Int)
 K (v0, ((((), ((), ())), ()), (b1, ())))
def QC (k : Nat) (b0 : Qe9) (b1 : (List Int)) : Option QC.τ := QC.c k b0 b1 some
def QC.T : Q1d := ⟨[.ptr 0 [0]], [.pair (.pair (.sfp 0 [0] 146) (.pair (.vbs 1) (.dat .unit))) (.dat .unit), .vec (.int .u8)], 1⟩
def QC.os : List Out := [⟨.ret, [.freeze (.slot 0), .auto 1], ⟨[.dat (.int .i64)], [.pair (.pair (.sfp 0 [0] 146) (.pair (.vbs 1) (.dat .unit))) (.dat .unit), .vec (.int .u8)]⟩⟩]
def QC.sem (k : Nat) : Qt := Q1o QC.T QC.os fun x => QC k x.1 x.2.1
noncomputable def QC.ctx (k : Nat) : Ctx := ⟨Tryz.prog, gam []⟩
theorem QC.gok (k : Nat) : ∀ f, Qo Tryz.prog f ((QC.ctx k).Γ f) := QU
def QC.ann (k : Nat) : Ann := .nil
theorem QC.body (k : Nat) : Q1y (QC.ctx k) Tryz.f148 (Func.code Tryz.f148) (QC.ann k) QC.T QC.os (fun x K => QC.c k x.1 x.2.1 K) := by
 intro ρ x K; kernel_rfl
theorem QC.sem_ok (k : Nat) : Qo Tryz.prog 148 (QC.sem k) :=
 Q0Y (C := QC.ctx k) (QC.gok k) Tryz.mix (c := Func.code Tryz.f148) (ann := QC.ann k) (T := QC.T) (os := QC.os) (fun x K => QC.c k x.1 x.2.1 K) Tryz.func148 (by kernel_rfl) (by kernel_rfl) Q3.nil (QC.body k) (by kernel_rfl) (by kernel_rfl) (by kernel_rfl)
abbrev Q0d.τ : Type := (Int × Qe9 × (List Int) × Unit)
def Q0d.c (k : Nat) {ρ : Type} (b0 : Qe9) (b1 : (List Int)) (K : Q0d.τ → Option ρ) : Option ρ :=
 (QC k (((), ((), ())), ()) b1).bind fun t0 => K (t0.1, ((((), ((), ())), ()), (t0.2.2.1, ())))
def Q0d (k : Nat) (b0 : Qe9) (b1 : (List Int)) : Option Q0d.τ := Q0d.c k b0 b1 some
def Q0d.T : Q1d := ⟨[.ptr 0 []], [.pair (.pair (.sfp 0 [0] 146) (.pair (.vbs 1) (.dat .unit))) (.dat .unit), .vec (.int .u8)], 1⟩
def Q0d.os : List Out := [⟨.ret, [.freeze (.slot 0), .auto 1], ⟨[.dat (.int .i64)], [.pair (.pair (.sfp 0 [0] 146) (.pair (.vbs 1) (.dat .unit))) (.dat .unit), .vec (.int .u8)]⟩⟩]
def Q0d.sem (k : Nat) : Qt := Q1o Q0d.T Q0d.os fun x => Q0d k x.1 x.2.1
noncomputable def Q0d.ctx (k : Nat) : Ctx := ⟨Tryz.prog, gam [(148, (QC.sem k))]⟩
theorem Q0d.gok (k : Nat) : ∀ f, Qo Tryz.prog f ((Q0d.ctx k).Γ f) := (Qd (QC.sem_ok k) QU)
def Q0d.ann (k : Nat) : Ann := .nil
theorem Q0d.body (k : Nat) : Q1y (Q0d.ctx k) Tryz.f134 (Func.code Tryz.f134) (Q0d.ann k) Q0d.T Q0d.os (fun x K => Q0d.c k x.1 x.2.1 K) := by
 intro ρ x K; kernel_rfl
theorem Q0d.sem_ok (k : Nat) : Qo Tryz.prog 134 (Q0d.sem k) :=
 Q0Y (C := Q0d.ctx k) (Q0d.gok k) Tryz.mix (c := Func.code Tryz.f134) (ann := Q0d.ann k) (T := Q0d.T) (os := Q0d.os) (fun x K => Q0d.c k x.1 x.2.1 K) Tryz.func134 (by kernel_rfl) (by kernel_rfl) Q3.nil (Q0d.body k) (by kernel_rfl) (by kernel_rfl) (by kernel_rfl)
abbrev Qy.l0.σ : Type := QdY × Int × Int × Qe9 × (List Int) × Unit
abbrev Qy.l0.τ : Type := Qeb ⊕ Qe4 
def Qy.l0.r (k : Nat) {ρ : Type} (x : Qy.l0.σ) (kn : Qy.l0.σ → Option ρ) (ke : Qy.l0.τ → Option ρ) : Option ρ :=
 bif (decide (x.2.2.1 < x.2.1)) then (bif (decide (((0 : Int) ≤ x.2.2.1) ∧ (x.2.2.1 < (((List.length x.1) : Nat) : Int)))) then ((Qa k ((List.getD x.1 (Int.toNat x.2.2.1) ((0 : Int), ([], ([], ((0 : Int), ()))))).1, ((List.getD x.1 (Int.toNat x.2.2.1) ((0 : Int), ([], ([], ((0 : Int), ()))))).2.1, ((List.getD x.1 (Int.toNat x.2.2.1) ((0 : Int), ([], ([], ((0 : Int), ()))))).2.2.1, ((List.getD x.1 (Int.toNat x.2.2.1) ((0 : Int), ([], ([], ((0 : Int), ()))))).2.2.2.1, ()))))).bind fun t8 => let v9 : ByteArray := t8.1
 let v10 : Int := t8.2.1
 bif (v10 != (0 : Int)) then (ke (.inl ((⟨(List.toArray [])⟩ : ByteArray), (v10, ())))) else ((Qf k v9 (((), ((), ())), ()) x.2.2.2.2.1).bind fun t11 => let v12 : Int := (IntKind.wrap IntKind.i64 (x.2.2.1 + (1 : Int)))
 kn (x.1, (x.2.1, (v12, ((((), ((), ())), ()), (t11.2.1, ()))))))) else (none)) else (ke (.inr ((((), ((), ())), ()), (x.2.2.2.2.1, ()))))
def Qy.l0 (k : Nat) : Nat → Qy.l0.σ → Option Qy.l0.τ := Q0T (Qy.l0.r k)
def Qy.l0.T : StT := ⟨us 4 ++ .ptr 0 [] :: us 17 ++ .dat QdS :: .dat (.int .i64) :: .dat (.int .i64) :: us 20, [.pair (.pair (.sfp 0 [0] 146) (.pair (.vbs 1) (.dat .unit))) (.dat .unit), .vec (.int .u8)]⟩
def Qy.l0.os : List Out := [⟨.ret, [.mask [2, 3], .auto 0], ⟨us 2 ++ .dat .str :: .dat (.int .i64) :: us 41, []⟩⟩, ⟨(.exit 0), [.mask [4], .auto 0], ⟨us 4 ++ .ptr 0 [] :: us 40, [.pair (.pair (.sfp 0 [0] 146) (.pair (.vbs 1) (.dat .unit))) (.dat .unit), .vec (.int .u8)]⟩⟩]
def Qy.c (k : Nat) {ρ : Type} (b : QdT) (K : ByteArray × Int × Unit → Option ρ) : Option ρ :=
  (QA k ).bind fun t0 => (Q0t k (b.1.1, (b.1.2.1, (b.1.2.2.1, (b.1.2.2.2.1, (b.1.2.2.2.2.1, (b.1.2.2.2.2.2.1, ()))))))).bind fun t1 => (Qf k t1.1 (((), ((), ())), ()) t0.2.1).bind fun t2 => let v3 : QdY := b.2.1
  let v4 : Int := (((List.length v3) : Nat) : Int)
  (QE k (IntKind.wrap IntKind.u64 v4) (((), ((), ())), ()) t2.2.1).bind fun t5 => let v6 : QdY := b.2.1
  let v7 : Int := (((List.length v6) : Nat) : Int)
  (Qy.l0 k k (v6, (v7, ((0 : Int), ((((), ((), ())), ()), (t5.2.1, ())))))).bind fun t13 => (match t13 with
 | .inl t14 => (K (t14.1, (t14.2.1, ())))
 | .inr (t15) => ((Q0d k (((), ((), ())), ()) t15.2.1).bind fun t16 => bif (decide (t16.1 > (8192 : Int))) then (K ((⟨(List.toArray [])⟩ : ByteArray), ((110 : Int), ()))) else ((Qp k (((), ((), ())), ()) t16.2.2.1).bind fun t17 => K (t17.1, ((0 : Int), ())))))
def Qy (k : Nat) (b : QdT) : Option Qeb := Qy.c k b some
def Qy.tin : List Ty := [QdR]
def Qy.tout : List Ty := [.str, (.int .i64)]
def Qy.sem (k : Nat) : Qt := QL Qy.tin Qy.tout fun x => Qy k x.1
noncomputable def Qy.ctx (k : Nat) : Ctx := ⟨Tryz.prog, gam [(33, (QA.sem k)), (35, (Q0t.sem k)), (34, (Qf.sem k)), (132, (QE.sem k)), (133, (Qa.sem k)), (134, (Q0d.sem k)), (38, (Qp.sem k))]⟩
theorem Qy.gok (k : Nat) : ∀ f, Qo Tryz.prog f ((Qy.ctx k).Γ f) := (Qd (QA.sem_ok k) (Qd (Q0t.sem_ok k) (Qd (Qf.sem_ok k) (Qd (QE.sem_ok k) (Qd (Qa.sem_ok k) (Qd (Q0d.sem_ok k) (Qd (Qp.sem_ok k) QU)))))))
theorem Qy.l0.round (k : Nat) : Q0V (Qy.ctx k) (Q0n (Func.code Tryz.f116) [1, 1, 1, 1, 0, 1, 0, 0]) (.nil) Qy.l0.T [.mask [4, 22, 23, 24], .auto 0] Qy.l0.os (Qy.l0.r k) := by
 intro ρ x kn ke; kernel_rfl
theorem Qy.l0.ok (k : Nat) : StOK 0 Tryz.prog (.loop (Q0n (Func.code Tryz.f116) [1, 1, 1, 1, 0, 1, 0, 0])) (QK Qy.l0.T Qy.l0.os (Qy.l0 k k)) :=
 Q0X (C := Qy.ctx k) (Qy.gok k) Tryz.mix Q3.nil (by kernel_rfl) (by kernel_rfl) (by kernel_rfl) (Qy.l0.round k) k
def Qy.ann (k : Nat) : Ann := .node [] none (.nil) (.node [] none (.nil) (.node [] none (.nil) (.node [] none (.nil) (.node [] none (.node [] none (.nil) (.node [] none (.node [.mask [4, 22, 23, 24], .auto 0] (some (QK Qy.l0.T Qy.l0.os (Qy.l0 k k))) .nil .nil) (.nil))) (.nil)))))
theorem Qy.body (k : Nat) : Q0C (Qy.ctx k) Tryz.f116 (Func.code Tryz.f116) (Qy.ann k) Qy.tin Qy.tout (fun x K => Qy.c k x.1 K) := by
 intro ρ x K; kernel_rfl
theorem Qy.sem_ok (k : Nat) : Qo Tryz.prog 116 (Qy.sem k) :=
 Qw (C := Qy.ctx k) (Qy.gok k) Tryz.mix (c := Func.code Tryz.f116) (ann := Qy.ann k) (tin := Qy.tin) (tout := Qy.tout) (fun x K => Qy.c k x.1 K) Tryz.func116 (by kernel_rfl) (by kernel_rfl) (Q3.seq Q3.nil (Q3.seq Q3.nil (Q3.seq Q3.nil (Q3.seq Q3.nil (Q3.seq (Q3.seq Q3.nil (Q3.block (Q3.loop (by kernel_rfl) (Qy.l0.ok k)))) Q3.nil))))) (Qy.body k)
def Q0O.c (k : Nat) {ρ : Type} (n : Int) (K : (List Int) × Unit → Option ρ) : Option ρ :=
 let v0 : (List Int) := (List.set (List.replicate 4 (0 : Int)) 0 n)
 K (v0, ())
def Q0O (k : Nat) (n : Int) : Option Qee := Q0O.c k n some
def Q0O.tin : List Ty := [(.int .u64)]
def Q0O.tout : List Ty := [Qed]
def Q0O.sem (k : Nat) : Qt := QL Q0O.tin Q0O.tout fun x => Q0O k x.1
noncomputable def Q0O.ctx (k : Nat) : Ctx := ⟨Tryz.prog, gam []⟩
theorem Q0O.gok (k : Nat) : ∀ f, Qo Tryz.prog f ((Q0O.ctx k).Γ f) := QU
def Q0O.ann (k : Nat) : Ann := .nil
theorem Q0O.body (k : Nat) : Q0C (Q0O.ctx k) Tryz.f173 (Func.code Tryz.f173) (Q0O.ann k) Q0O.tin Q0O.tout (fun x K => Q0O.c k x.1 K) := by
 intro ρ x K; kernel_rfl
theorem Q0O.sem_ok (k : Nat) : Qo Tryz.prog 173 (Q0O.sem k) :=
 Qw (C := Q0O.ctx k) (Q0O.gok k) Tryz.mix (c := Func.code Tryz.f173) (ann := Q0O.ann k) (tin := Q0O.tin) (tout := Q0O.tout) (fun x K => Q0O.c k x.1 K) Tryz.func173 (by kernel_rfl) (by kernel_rfl) Q3.nil (Q0O.body k)
def Q16 (k : Nat) (a0 : (List Int)) (a1 : Int) : Option Qee := none
def Q16.tin : List Ty := [Qed, (.int .i64)]
def Q16.tout : List Ty := [Qed]
def Q16.sem (k : Nat) : Qt := QL Q16.tin Q16.tout fun x => Q16 k x.1 x.2.1
theorem Q16.sem_ok (k : Nat) : Qo Tryz.prog 177 (Q16.sem k) := Q9H fun _ => rfl
def Q0I.c (k : Nat) {ρ : Type} (a : (List Int)) (K : Bool × Unit → Option ρ) : Option ρ :=
 let v0 : (List Int) := (List.replicate 4 (0 : Int))
 K ((decide (a = v0)), ())
def Q0I (k : Nat) (a : (List Int)) : Option (Bool × Unit) := Q0I.c k a some
def Q0I.tin : List Ty := [Qed]
def Q0I.tout : List Ty := [.bool]
def Q0I.sem (k : Nat) : Qt := QL Q0I.tin Q0I.tout fun x => Q0I k x.1
noncomputable def Q0I.ctx (k : Nat) : Ctx := ⟨Tryz.prog, gam []⟩
theorem Q0I.gok (k : Nat) : ∀ f, Qo Tryz.prog f ((Q0I.ctx k).Γ f) := QU
def Q0I.ann (k : Nat) : Ann := .nil
theorem Q0I.body (k : Nat) : Q0C (Q0I.ctx k) Tryz.f168 (Func.code Tryz.f168) (Q0I.ann k) Q0I.tin Q0I.tout (fun x K => Q0I.c k x.1 K) := by
 intro ρ x K; kernel_rfl
theorem Q0I.sem_ok (k : Nat) : Qo Tryz.prog 168 (Q0I.sem k) :=
 Qw (C := Q0I.ctx k) (Q0I.gok k) Tryz.mix (c := Func.code Tryz.f168) (ann := Q0I.ann k) (tin := Q0I.tin) (tout := Q0I.tout) (fun x K => Q0I.c k x.1 K) Tryz.func168 (by kernel_rfl) (by kernel_rfl) Q3.nil (Q0I.body k)
abbrev Q6.p0.σ : Type := Int × Int × Unit
abbrev Q6.p0.τ : Type := (Int × Int × Unit)
def Q6.p0.r (k : Nat) {ρ : Type} (x : Q6.p0.σ) (K : Q6.p0.τ → Option ρ) : Option ρ :=
 bif (decide (x.1 ≥ (4294967296 : Int))) then (let v0 : Int := (Q22 IntKind.u64 x.1 (32 : Int))
 K (v0, ((32 : Int), ()))) else (K (x.1, (x.2.1, ())))
def Q6.p0 (k : Nat) (x : Q6.p0.σ) : Option Q6.p0.τ := Q6.p0.r k x some
def Q6.p0.T : StT := ⟨.dat (.int .u64) :: us 1 ++ .dat (.int .i64) :: us 22, []⟩
def Q6.p0.os : List Out := [⟨.normal, [.mask [0, 2], .auto 0], ⟨.dat (.int .u64) :: us 1 ++ .dat (.int .i64) :: us 22, []⟩⟩]
abbrev Q6.p1.σ : Type := Int × Int × Unit
abbrev Q6.p1.τ : Type := (Int × Int × Unit)
def Q6.p1.r (k : Nat) {ρ : Type} (x : Q6.p1.σ) (K : Q6.p1.τ → Option ρ) : Option ρ :=
 bif (decide (x.1 ≥ (65536 : Int))) then (let v2 : Int := (Q22 IntKind.u64 x.1 (16 : Int))
 let v3 : Int := (IntKind.wrap IntKind.i64 (x.2.1 + (16 : Int)))
 K (v2, (v3, ()))) else (K (x.1, (x.2.1, ())))
def Q6.p1 (k : Nat) (x : Q6.p1.σ) : Option Q6.p1.τ := Q6.p1.r k x some
def Q6.p1.T : StT := ⟨.dat (.int .u64) :: us 1 ++ .dat (.int .i64) :: us 22, []⟩
def Q6.p1.os : List Out := [⟨.normal, [.mask [0, 2], .auto 0], ⟨.dat (.int .u64) :: us 1 ++ .dat (.int .i64) :: us 22, []⟩⟩]
def Q6.c (k : Nat) {ρ : Type} (x_0 : Int) (K : Int × Unit → Option ρ) : Option ρ :=
 (Q6.p0 k (x_0, ((0 : Int), ()))).bind fun t1 => (Q6.p1 k (t1.1, (t1.2.1, ()))).bind fun t4 => bif (decide (t4.1 ≥ (256 : Int))) then (let v5 : Int := (Q22 IntKind.u64 t4.1 (8 : Int))
 let v6 : Int := (IntKind.wrap IntKind.i64 (t4.2.1 + (8 : Int)))
 bif (decide (((0 : Int) ≤ (IntKind.wrap IntKind.u8 v5)) ∧ ((IntKind.wrap IntKind.u8 v5) < ((256 : Nat) : Int)))) then (let v7 : Int := (Q13 (⟨(List.toArray (List.append (List.append [0, 1, 2, 2, 3, 3, 3, 3, 4, 4, 4, 4, 4, 4, 4, 4, 5, 5, 5, 5, 5, 5, 5, 5, 5, 5, 5, 5, 5, 5, 5, 5, 6, 6, 6, 6, 6, 6, 6, 6, 6, 6, 6, 6, 6, 6, 6, 6, 6, 6, 6, 6, 6, 6, 6, 6, 6, 6, 6, 6, 6, 6, 6, 6] [7, 7, 7, 7, 7, 7, 7, 7, 7, 7, 7, 7, 7, 7, 7, 7, 7, 7, 7, 7, 7, 7, 7, 7, 7, 7, 7, 7, 7, 7, 7, 7, 7, 7, 7, 7, 7, 7, 7, 7, 7, 7, 7, 7, 7, 7, 7, 7, 7, 7, 7, 7, 7, 7, 7, 7, 7, 7, 7, 7, 7, 7, 7, 7]) (List.append [8, 8, 8, 8, 8, 8, 8, 8, 8, 8, 8, 8, 8, 8, 8, 8, 8, 8, 8, 8, 8, 8, 8, 8, 8, 8, 8, 8, 8, 8, 8, 8, 8, 8, 8, 8, 8, 8, 8, 8, 8, 8, 8, 8, 8, 8, 8, 8, 8, 8, 8, 8, 8, 8, 8, 8, 8, 8, 8, 8, 8, 8, 8, 8] [8, 8, 8, 8, 8, 8, 8, 8, 8, 8, 8, 8, 8, 8, 8, 8, 8, 8, 8, 8, 8, 8, 8, 8, 8, 8, 8, 8, 8, 8, 8, 8, 8, 8, 8, 8, 8, 8, 8, 8, 8, 8, 8, 8, 8, 8, 8, 8, 8, 8, 8, 8, 8, 8, 8, 8, 8, 8, 8, 8, 8, 8, 8, 8])))⟩ : ByteArray) (Int.toNat (IntKind.wrap IntKind.u8 v5)))
 let v8 : Int := (IntKind.wrap IntKind.i64 (v6 + (IntKind.wrap IntKind.i64 v7)))
 K (v8, ())) else (none)) else (let v9 : Int := (IntKind.wrap IntKind.u8 t4.1)
 bif (decide (((0 : Int) ≤ v9) ∧ (v9 < ((256 : Nat) : Int)))) then (let v10 : Int := (Q13 (⟨(List.toArray (List.append (List.append [0, 1, 2, 2, 3, 3, 3, 3, 4, 4, 4, 4, 4, 4, 4, 4, 5, 5, 5, 5, 5, 5, 5, 5, 5, 5, 5, 5, 5, 5, 5, 5, 6, 6, 6, 6, 6, 6, 6, 6, 6, 6, 6, 6, 6, 6, 6, 6, 6, 6, 6, 6, 6, 6, 6, 6, 6, 6, 6, 6, 6, 6, 6, 6] [7, 7, 7, 7, 7, 7, 7, 7, 7, 7, 7, 7, 7, 7, 7, 7, 7, 7, 7, 7, 7, 7, 7, 7, 7, 7, 7, 7, 7, 7, 7, 7, 7, 7, 7, 7, 7, 7, 7, 7, 7, 7, 7, 7, 7, 7, 7, 7, 7, 7, 7, 7, 7, 7, 7, 7, 7, 7, 7, 7, 7, 7, 7, 7]) (List.append [8, 8, 8, 8, 8, 8, 8, 8, 8, 8, 8, 8, 8, 8, 8, 8, 8, 8, 8, 8, 8, 8, 8, 8, 8, 8, 8, 8, 8, 8, 8, 8, 8, 8, 8, 8, 8, 8, 8, 8, 8, 8, 8, 8, 8, 8, 8, 8, 8, 8, 8, 8, 8, 8, 8, 8, 8, 8, 8, 8, 8, 8, 8, 8] [8, 8, 8, 8, 8, 8, 8, 8, 8, 8, 8, 8, 8, 8, 8, 8, 8, 8, 8, 8, 8, 8, 8, 8, 8, 8, 8, 8, 8, 8, 8, 8, 8, 8, 8, 8, 8, 8, 8, 8, 8, 8, 8, 8, 8, 8, 8, 8, 8, 8, 8, 8, 8, 8, 8, 8, 8, 8, 8, 8, 8, 8, 8, 8])))⟩ : ByteArray) (Int.toNat v9))
 let v11 : Int := (IntKind.wrap IntKind.i64 (t4.2.1 + (IntKind.wrap IntKind.i64 v10)))
 K (v11, ())) else (none))
def Q6 (k : Nat) (x_0 : Int) : Option (Int × Unit) := Q6.c k x_0 some
def Q6.tin : List Ty := [(.int .u64)]
def Q6.tout : List Ty := [(.int .i64)]
def Q6.sem (k : Nat) : Qt := QL Q6.tin Q6.tout fun x => Q6 k x.1
noncomputable def Q6.ctx (k : Nat) : Ctx := ⟨Tryz.prog, gam []⟩
theorem Q6.gok (k : Nat) : ∀ f, Qo Tryz.prog f ((Q6.ctx k).Γ f) := QU
theorem Q6.p1.is (k : Nat) : Q3U (Q6.ctx k) (Q0n (Func.code Tryz.f179) [1, 1, 0]) (.nil) Q6.p1.T Q6.p1.os (Q6.p1.r k) := by
 intro ρ x K; kernel_rfl
theorem Q6.p1.ok (k : Nat) : StOK 0 Tryz.prog (Q0n (Func.code Tryz.f179) [1, 1, 0]) (QK Q6.p1.T Q6.p1.os (Q6.p1 k)) :=
 Q3w (C := Q6.ctx k) (T := Q6.p1.T) (os := Q6.p1.os) (Q6.gok k) Tryz.mix (fun x K => Q6.p1.r k x K) Q3.nil (by kernel_rfl) (by kernel_rfl) (Q6.p1.is k)
theorem Q6.p0.is (k : Nat) : Q3U (Q6.ctx k) (Q0n (Func.code Tryz.f179) [1, 0]) (.nil) Q6.p0.T Q6.p0.os (Q6.p0.r k) := by
 intro ρ x K; kernel_rfl
theorem Q6.p0.ok (k : Nat) : StOK 0 Tryz.prog (Q0n (Func.code Tryz.f179) [1, 0]) (QK Q6.p0.T Q6.p0.os (Q6.p0 k)) :=
 Q3w (C := Q6.ctx k) (T := Q6.p0.T) (os := Q6.p0.os) (Q6.gok k) Tryz.mix (fun x K => Q6.p0.r k x K) Q3.nil (by kernel_rfl) (by kernel_rfl) (Q6.p0.is k)
def Q6.ann (k : Nat) : Ann := .node [] none (.nil) (.node [] none (.node [] (some (QK Q6.p0.T Q6.p0.os (Q6.p0 k))) .nil .nil) (.node [] none (.node [] (some (QK Q6.p1.T Q6.p1.os (Q6.p1 k))) .nil .nil) (.nil)))
theorem Q6.body (k : Nat) : Q0C (Q6.ctx k) Tryz.f179 (Func.code Tryz.f179) (Q6.ann k) Q6.tin Q6.tout (fun x K => Q6.c k x.1 K) := by
 intro ρ x K; kernel_rfl
theorem Q6.sem_ok (k : Nat) : Qo Tryz.prog 179 (Q6.sem k) :=
 Qw (C := Q6.ctx k) (Q6.gok k) Tryz.mix (c := Func.code Tryz.f179) (ann := Q6.ann k) (tin := Q6.tin) (tout := Q6.tout) (fun x K => Q6.c k x.1 K) Tryz.func179 (by kernel_rfl) (by kernel_rfl) (Q3.seq Q3.nil (Q3.seq (Q3.loop (by kernel_rfl) (Q6.p0.ok k)) (Q3.seq (Q3.loop (by kernel_rfl) (Q6.p1.ok k)) Q3.nil))) (Q6.body k)
abbrev Q07.l0.σ : Type := Int × (List Int) × Unit
abbrev Q07.l0.τ : Type := (Int × Unit) ⊕ (Unit)
def Q07.l0.r (k : Nat) {ρ : Type} (x : Q07.l0.σ) (kn : Q07.l0.σ → Option ρ) (ke : Q07.l0.τ → Option ρ) : Option ρ :=
 bif (decide (x.1 ≥ (0 : Int))) then (bif (decide (((0 : Int) ≤ x.1) ∧ (x.1 < ((4 : Nat) : Int)))) then (let v0 : Int := (List.getD x.2.1 (Int.toNat x.1) (0 : Int))
 bif (v0 != (0 : Int)) then (let v1 : Int := (IntKind.wrap IntKind.i64 (x.1 * (64 : Int)))
 bif (decide (((0 : Int) ≤ x.1) ∧ (x.1 < ((4 : Nat) : Int)))) then (let v2 : Int := (List.getD x.2.1 (Int.toNat x.1) (0 : Int))
 (Q6 k v2).bind fun t3 => let v4 : Int := (IntKind.wrap IntKind.i64 (v1 + t3.1))
 ke (.inl (v4, ()))) else (none)) else (let v5 : Int := (IntKind.wrap IntKind.i64 (x.1 - (1 : Int)))
 kn (v5, (x.2.1, ())))) else (none)) else (ke (.inr ()))
def Q07.l0 (k : Nat) : Nat → Q07.l0.σ → Option Q07.l0.τ := Q0T (Q07.l0.r k)
def Q07.l0.T : StT := ⟨us 1 ++ .ptr 0 [] :: us 1 ++ .dat (.int .i64) :: us 15, [.dat Qed]⟩
def Q07.l0.os : List Out := [⟨.ret, [.mask [2], .auto 0], ⟨us 2 ++ .dat (.int .i64) :: us 16, []⟩⟩, ⟨(.exit 0), [.mask [], .auto 0], ⟨us 19, []⟩⟩]
def Q07.c (k : Nat) {ρ : Type} (a : (List Int)) (K : Int × Unit → Option ρ) : Option ρ :=
  (Q07.l0 k k ((3 : Int), (a, ()))).bind fun t6 => (match t6 with
 | .inl t7 => (K (t7.1, ()))
 | .inr (t8) => (K ((0 : Int), ())))
def Q07 (k : Nat) (a : (List Int)) : Option (Int × Unit) := Q07.c k a some
def Q07.tin : List Ty := [Qed]
def Q07.tout : List Ty := [(.int .i64)]
def Q07.sem (k : Nat) : Qt := QL Q07.tin Q07.tout fun x => Q07 k x.1
noncomputable def Q07.ctx (k : Nat) : Ctx := ⟨Tryz.prog, gam [(179, (Q6.sem k))]⟩
theorem Q07.gok (k : Nat) : ∀ f, Qo Tryz.prog f ((Q07.ctx k).Γ f) := (Qd (Q6.sem_ok k) QU)
theorem Q07.l0.round (k : Nat) : Q0V (Q07.ctx k) (Q0n (Func.code Tryz.f175) [1, 0, 1, 0, 0]) (.nil) Q07.l0.T [.mask [1, 3], .auto 0] Q07.l0.os (Q07.l0.r k) := by
 intro ρ x kn ke; kernel_rfl
theorem Q07.l0.ok (k : Nat) : StOK 0 Tryz.prog (.loop (Q0n (Func.code Tryz.f175) [1, 0, 1, 0, 0])) (QK Q07.l0.T Q07.l0.os (Q07.l0 k k)) :=
 Q0X (C := Q07.ctx k) (Q07.gok k) Tryz.mix Q3.nil (by kernel_rfl) (by kernel_rfl) (by kernel_rfl) (Q07.l0.round k) k
def Q07.ann (k : Nat) : Ann := .node [] none (.nil) (.node [] none (.node [] none (.nil) (.node [] none (.node [.mask [1, 3], .auto 0] (some (QK Q07.l0.T Q07.l0.os (Q07.l0 k k))) .nil .nil) (.nil))) (.nil))
theorem Q07.body (k : Nat) : Q0C (Q07.ctx k) Tryz.f175 (Func.code Tryz.f175) (Q07.ann k) Q07.tin Q07.tout (fun x K => Q07.c k x.1 K) := by
 intro ρ x K; kernel_rfl
theorem Q07.sem_ok (k : Nat) : Qo Tryz.prog 175 (Q07.sem k) :=
 Qw (C := Q07.ctx k) (Q07.gok k) Tryz.mix (c := Func.code Tryz.f175) (ann := Q07.ann k) (tin := Q07.tin) (tout := Q07.tout) (fun x K => Q07.c k x.1 K) Tryz.func175 (by kernel_rfl) (by kernel_rfl) (Q3.seq Q3.nil (Q3.seq (Q3.seq Q3.nil (Q3.block (Q3.loop (by kernel_rfl) (Q07.l0.ok k)))) Q3.nil)) (Q07.body k)
abbrev Q08.l0.σ : Type := Int × Int × (List Int) × (List Int) × (List Int) × Unit
abbrev Q08.l0.τ : Type := (Int × (List Int) × (List Int) × (List Int) × Unit)
def Q08.l0.r (k : Nat) {ρ : Type} (x : Q08.l0.σ) (kn : Q08.l0.σ → Option ρ) (ke : Q08.l0.τ → Option ρ) : Option ρ :=
 let v5 : Int := (IntKind.wrap IntKind.i64 (Int.tdiv x.1 (64 : Int)))
 bif (decide (x.2.1 ≥ v5)) then (let v6 : Int := (IntKind.wrap IntKind.i64 (Int.tdiv x.1 (64 : Int)))
 let v7 : Int := (IntKind.wrap IntKind.i64 (x.2.1 - v6))
 bif (decide (((0 : Int) ≤ v7) ∧ (v7 < ((4 : Nat) : Int)))) then (let v8 : Int := (List.getD x.2.2.1 (Int.toNat v7) (0 : Int))
 let v9 : Int := (Int.tmod x.1 (64 : Int))
 bif (decide ((0 : Int) ≤ v9)) then (bif (decide (((0 : Int) ≤ x.2.1) ∧ (x.2.1 < ((4 : Nat) : Int)))) then (bif (decide (v7 > (0 : Int))) then (bif (decide (((0 : Int) ≤ x.2.1) ∧ (x.2.1 < ((4 : Nat) : Int)))) then (let v10 : Int := (List.getD (List.set x.2.2.2.2.1 (Int.toNat x.2.1) (Q2Y IntKind.u64 v8 v9)) (Int.toNat x.2.1) (0 : Int))
 let v11 : Int := (IntKind.wrap IntKind.i64 (v7 - (1 : Int)))
 bif (decide (((0 : Int) ≤ v11) ∧ (v11 < ((4 : Nat) : Int)))) then (let v12 : Int := (List.getD x.2.2.1 (Int.toNat v11) (0 : Int))
 let v13 : Int := (Int.tmod x.1 (64 : Int))
 let v14 : Int := (IntKind.wrap IntKind.i64 ((64 : Int) - v13))
 bif (decide ((0 : Int) ≤ v14)) then (let v15 : Int := (Q0U BinOp.or IntKind.u64 v10 (Q22 IntKind.u64 v12 v14))
 bif (decide (((0 : Int) ≤ x.2.1) ∧ (x.2.1 < ((4 : Nat) : Int)))) then (let v16 : Int := (IntKind.wrap IntKind.i64 (x.2.1 - (1 : Int)))
 kn (x.1, (v16, (x.2.2.1, (x.2.2.2.1, ((List.set (List.set x.2.2.2.2.1 (Int.toNat x.2.1) (Q2Y IntKind.u64 v8 v9)) (Int.toNat x.2.1) v15), ())))))) else (none)) else (none)) else (none)) else (none)) else (let v17 : Int := (IntKind.wrap IntKind.i64 (x.2.1 - (1 : Int)))
 kn (x.1, (v17, (x.2.2.1, (x.2.2.2.1, ((List.set x.2.2.2.2.1 (Int.toNat x.2.1) (Q2Y IntKind.u64 v8 v9)), ()))))))) else (none)) else (none)) else (none)) else (ke (x.1, (x.2.2.1, (x.2.2.2.1, (x.2.2.2.2.1, ())))))
def Q08.l0 (k : Nat) : Nat → Q08.l0.σ → Option Q08.l0.τ := Q0T (Q08.l0.r k)
def Q08.l0.T : StT := ⟨us 1 ++ .dat (.int .i64) :: .ptr 0 [] :: us 1 ++ .ptr 1 [] :: us 1 ++ .ptr 2 [] :: .dat (.int .i64) :: us 55, [.dat Qed, .dat Qed, .dat Qed]⟩
def Q08.l0.os : List Out := [⟨(.exit 1), [.mask [1, 2, 4, 6], .auto 0], ⟨us 1 ++ .dat (.int .i64) :: .ptr 0 [] :: us 1 ++ .ptr 1 [] :: us 1 ++ .ptr 2 [] :: us 56, [.dat Qed, .dat Qed, .dat Qed]⟩⟩]
def Q08.c (k : Nat) {ρ : Type} (a : (List Int)) (n : Int) (K : (List Int) × Bool × Unit → Option ρ) : Option ρ :=
 bif (decide (n < (0 : Int))) then (let v0 : Int := (if ((-(256 : Int)) > n) then (-(256 : Int)) else n)
 let v1 : Int := (IntKind.wrap IntKind.i64 ((0 : Int) - v0))
 (Q16 k a v1).bind fun t2 => K (t2.1, (false, ()))) else (bif (decide (n ≥ (256 : Int))) then (let v3 : (List Int) := (List.replicate 4 (0 : Int))
 (Q0I k a).bind fun t4 => K (v3, ((!t4.1), ()))) else ((Q08.l0 k k (n, ((3 : Int), (a, ((List.replicate 4 (0 : Int)), ((List.replicate 4 (0 : Int)), ())))))).bind fun t18 => let v19 : (List Int) := t18.2.2.2.1
 let v20 : (List Int) := t18.2.1
 (Q07 k v20).bind fun t21 => let v22 : Int := (IntKind.wrap IntKind.i64 (t21.1 + t18.1))
 K (v19, ((decide (v22 > (256 : Int))), ()))))
def Q08 (k : Nat) (a : (List Int)) (n : Int) : Option ((List Int) × Bool × Unit) := Q08.c k a n some
def Q08.tin : List Ty := [Qed, (.int .i64)]
def Q08.tout : List Ty := [Qed, .bool]
def Q08.sem (k : Nat) : Qt := QL Q08.tin Q08.tout fun x => Q08 k x.1 x.2.1
noncomputable def Q08.ctx (k : Nat) : Ctx := ⟨Tryz.prog, gam [(177, (Q16.sem k)), (168, (Q0I.sem k)), (175, (Q07.sem k))]⟩
theorem Q08.gok (k : Nat) : ∀ f, Qo Tryz.prog f ((Q08.ctx k).Γ f) := (Qd (Q16.sem_ok k) (Qd (Q0I.sem_ok k) (Qd (Q07.sem_ok k) QU)))
theorem Q08.l0.round (k : Nat) : Q0V (Q08.ctx k) (Q0n (Func.code Tryz.f178) [1, 1, 1, 0, 1, 0, 0]) (.nil) Q08.l0.T [.mask [1, 2, 4, 6, 7], .auto 0] Q08.l0.os (Q08.l0.r k) := by
 intro ρ x kn ke; kernel_rfl
theorem Q08.l0.ok (k : Nat) : StOK 0 Tryz.prog (.loop (Q0n (Func.code Tryz.f178) [1, 1, 1, 0, 1, 0, 0])) (QK Q08.l0.T Q08.l0.os (Q08.l0 k k)) :=
 Q0X (C := Q08.ctx k) (Q08.gok k) Tryz.mix Q3.nil (by kernel_rfl) (by kernel_rfl) (by kernel_rfl) (Q08.l0.round k) k
def Q08.ann (k : Nat) : Ann := .node [] none (.nil) (.node [] none (.nil) (.node [] none (.nil) (.node [] none (.node [] none (.nil) (.node [] none (.node [.mask [1, 2, 4, 6, 7], .auto 0] (some (QK Q08.l0.T Q08.l0.os (Q08.l0 k k))) .nil .nil) (.nil))) (.nil))))
theorem Q08.body (k : Nat) : Q0C (Q08.ctx k) Tryz.f178 (Func.code Tryz.f178) (Q08.ann k) Q08.tin Q08.tout (fun x K => Q08.c k x.1 x.2.1 K) := by
 intro ρ x K; kernel_rfl
theorem Q08.sem_ok (k : Nat) : Qo Tryz.prog 178 (Q08.sem k) :=
 Qw (C := Q08.ctx k) (Q08.gok k) Tryz.mix (c := Func.code Tryz.f178) (ann := Q08.ann k) (tin := Q08.tin) (tout := Q08.tout) (fun x K => Q08.c k x.1 x.2.1 K) Tryz.func178 (by kernel_rfl) (by kernel_rfl) (Q3.seq Q3.nil (Q3.seq Q3.nil (Q3.seq Q3.nil (Q3.seq (Q3.seq Q3.nil (Q3.block (Q3.loop (by kernel_rfl) (Q08.l0.ok k)))) Q3.nil)))) (Q08.body k)
abbrev QY.l0.σ : Type := Int × Int × (List Int) × (List Int) × (List Int) × Unit
abbrev QY.l0.τ : Type := ((List Int) × (List Int) × Unit)
def QY.l0.r (k : Nat) {ρ : Type} (x : QY.l0.σ) (kn : QY.l0.σ → Option ρ) (ke : QY.l0.τ → Option ρ) : Option ρ :=
 let v5 : Int := (IntKind.wrap IntKind.i64 (Int.tdiv x.1 (64 : Int)))
 let v6 : Int := (IntKind.wrap IntKind.i64 (x.2.1 + v5))
 bif (decide (v6 < (4 : Int))) then (let v7 : Int := (IntKind.wrap IntKind.i64 (Int.tdiv x.1 (64 : Int)))
 let v8 : Int := (IntKind.wrap IntKind.i64 (x.2.1 + v7))
 bif (decide (((0 : Int) ≤ v8) ∧ (v8 < ((4 : Nat) : Int)))) then (let v9 : Int := (List.getD x.2.2.1 (Int.toNat v8) (0 : Int))
 let v10 : Int := (Int.tmod x.1 (64 : Int))
 bif (decide ((0 : Int) ≤ v10)) then (bif (decide (((0 : Int) ≤ x.2.1) ∧ (x.2.1 < ((4 : Nat) : Int)))) then (let v11 : Int := (IntKind.wrap IntKind.i64 (v8 + (1 : Int)))
 bif (decide (v11 < (4 : Int))) then (bif (decide (((0 : Int) ≤ x.2.1) ∧ (x.2.1 < ((4 : Nat) : Int)))) then (let v12 : Int := (List.getD (List.set x.2.2.2.2.1 (Int.toNat x.2.1) (Q22 IntKind.u64 v9 v10)) (Int.toNat x.2.1) (0 : Int))
 let v13 : Int := (IntKind.wrap IntKind.i64 (v8 + (1 : Int)))
 bif (decide (((0 : Int) ≤ v13) ∧ (v13 < ((4 : Nat) : Int)))) then (let v14 : Int := (List.getD x.2.2.1 (Int.toNat v13) (0 : Int))
 let v15 : Int := (Int.tmod x.1 (64 : Int))
 let v16 : Int := (IntKind.wrap IntKind.i64 ((64 : Int) - v15))
 bif (decide ((0 : Int) ≤ v16)) then (let v17 : Int := (Q0U BinOp.or IntKind.u64 v12 (Q2Y IntKind.u64 v14 v16))
 bif (decide (((0 : Int) ≤ x.2.1) ∧ (x.2.1 < ((4 : Nat) : Int)))) then (let v18 : Int := (IntKind.wrap IntKind.i64 (x.2.1 + (1 : Int)))
 kn (x.1, (v18, (x.2.2.1, (x.2.2.2.1, ((List.set (List.set x.2.2.2.2.1 (Int.toNat x.2.1) (Q22 IntKind.u64 v9 v10)) (Int.toNat x.2.1) v17), ())))))) else (none)) else (none)) else (none)) else (none)) else (let v19 : Int := (IntKind.wrap IntKind.i64 (x.2.1 + (1 : Int)))
 kn (x.1, (v19, (x.2.2.1, (x.2.2.2.1, ((List.set x.2.2.2.2.1 (Int.toNat x.2.1) (Q22 IntKind.u64 v9 v10)), ()))))))) else (none)) else (none)) else (none)) else (ke (x.2.2.2.1, (x.2.2.2.2.1, ())))
def QY.l0 (k : Nat) : Nat → QY.l0.σ → Option QY.l0.τ := Q0T (QY.l0.r k)
def QY.l0.T : StT := ⟨us 1 ++ .dat (.int .i64) :: .ptr 0 [] :: us 1 ++ .ptr 1 [] :: us 2 ++ .ptr 2 [] :: .dat (.int .i64) :: us 53, [.dat Qed, .dat Qed, .dat Qed]⟩
def QY.l0.os : List Out := [⟨(.exit 1), [.mask [4, 7], .auto 0], ⟨us 4 ++ .ptr 0 [] :: us 2 ++ .ptr 1 [] :: us 54, [.dat Qed, .dat Qed]⟩⟩]
def QY.c (k : Nat) {ρ : Type} (a : (List Int)) (n : Int) (K : (List Int) × Unit → Option ρ) : Option ρ :=
 bif (decide (n < (0 : Int))) then (let v0 : Int := (if ((-(256 : Int)) > n) then (-(256 : Int)) else n)
 let v1 : Int := (IntKind.wrap IntKind.i64 ((0 : Int) - v0))
 (Q08 k a v1).bind fun t2 => let v3 : (List Int) := t2.1
 K (v3, ())) else (bif (decide (n ≥ (256 : Int))) then (let v4 : (List Int) := (List.replicate 4 (0 : Int))
 K (v4, ())) else ((QY.l0 k k (n, ((0 : Int), (a, ((List.replicate 4 (0 : Int)), ((List.replicate 4 (0 : Int)), ())))))).bind fun t20 => let v21 : (List Int) := t20.2.1
 K (v21, ())))
def QY (k : Nat) (a : (List Int)) (n : Int) : Option Qee := QY.c k a n some
def QY.tin : List Ty := [Qed, (.int .i64)]
def QY.tout : List Ty := [Qed]
def QY.sem (k : Nat) : Qt := QL QY.tin QY.tout fun x => QY k x.1 x.2.1
noncomputable def QY.ctx (k : Nat) : Ctx := ⟨Tryz.prog, gam [(178, (Q08.sem k))]⟩
theorem QY.gok (k : Nat) : ∀ f, Qo Tryz.prog f ((QY.ctx k).Γ f) := (Qd (Q08.sem_ok k) QU)
theorem QY.l0.round (k : Nat) : Q0V (QY.ctx k) (Q0n (Func.code Tryz.f177) [1, 1, 1, 0, 1, 0, 0]) (.nil) QY.l0.T [.mask [1, 2, 4, 7, 8], .auto 0] QY.l0.os (QY.l0.r k) := by
 intro ρ x kn ke; kernel_rfl
theorem QY.l0.ok (k : Nat) : StOK 0 Tryz.prog (.loop (Q0n (Func.code Tryz.f177) [1, 1, 1, 0, 1, 0, 0])) (QK QY.l0.T QY.l0.os (QY.l0 k k)) :=
 Q0X (C := QY.ctx k) (QY.gok k) Tryz.mix Q3.nil (by kernel_rfl) (by kernel_rfl) (by kernel_rfl) (QY.l0.round k) k
def QY.ann (k : Nat) : Ann := .node [] none (.nil) (.node [] none (.nil) (.node [] none (.nil) (.node [] none (.node [] none (.nil) (.node [] none (.node [.mask [1, 2, 4, 7, 8], .auto 0] (some (QK QY.l0.T QY.l0.os (QY.l0 k k))) .nil .nil) (.nil))) (.nil))))
theorem QY.body (k : Nat) : Q0C (QY.ctx k) Tryz.f177 (Func.code Tryz.f177) (QY.ann k) QY.tin QY.tout (fun x K => QY.c k x.1 x.2.1 K) := by
 intro ρ x K; kernel_rfl
theorem QY.sem_ok (k : Nat) : Qo Tryz.prog 177 (QY.sem k) :=
 Qw (C := QY.ctx k) (QY.gok k) Tryz.mix (c := Func.code Tryz.f177) (ann := QY.ann k) (tin := QY.tin) (tout := QY.tout) (fun x K => QY.c k x.1 x.2.1 K) Tryz.func177 (by kernel_rfl) (by kernel_rfl) (Q3.seq Q3.nil (Q3.seq Q3.nil (Q3.seq Q3.nil (Q3.seq (Q3.seq Q3.nil (Q3.block (Q3.loop (by kernel_rfl) (QY.l0.ok k)))) Q3.nil)))) (QY.body k)
def Q0f.c (k : Nat) {ρ : Type} (w : (List Int)) (bytes : Int) (K : (List Int) × Unit → Option ρ) : Option ρ :=
 bif (decide (bytes < (0 : Int))) then (let v0 : Int := (IntKind.wrap IntKind.i64 ((0 : Int) - bytes))
 let v1 : Int := (IntKind.wrap IntKind.i64 (v0 * (8 : Int)))
 (QY k w v1).bind fun t2 => K (t2.1, ())) else (let v3 : Int := (IntKind.wrap IntKind.i64 (bytes * (8 : Int)))
 (Q08 k w v3).bind fun t4 => let v5 : (List Int) := t4.1
 K (v5, ()))
def Q0f (k : Nat) (w : (List Int)) (bytes : Int) : Option Qee := Q0f.c k w bytes some
def Q0f.tin : List Ty := [Qed, (.int .i64)]
def Q0f.tout : List Ty := [Qed]
def Q0f.sem (k : Nat) : Qt := QL Q0f.tin Q0f.tout fun x => Q0f k x.1 x.2.1
noncomputable def Q0f.ctx (k : Nat) : Ctx := ⟨Tryz.prog, gam [(177, (QY.sem k)), (178, (Q08.sem k))]⟩
theorem Q0f.gok (k : Nat) : ∀ f, Qo Tryz.prog f ((Q0f.ctx k).Γ f) := (Qd (QY.sem_ok k) (Qd (Q08.sem_ok k) QU))
def Q0f.ann (k : Nat) : Ann := .nil
theorem Q0f.body (k : Nat) : Q0C (Q0f.ctx k) Tryz.f174 (Func.code Tryz.f174) (Q0f.ann k) Q0f.tin Q0f.tout (fun x K => Q0f.c k x.1 x.2.1 K) := by
 intro ρ x K; kernel_rfl
theorem Q0f.sem_ok (k : Nat) : Qo Tryz.prog 174 (Q0f.sem k) :=
 Qw (C := Q0f.ctx k) (Q0f.gok k) Tryz.mix (c := Func.code Tryz.f174) (ann := Q0f.ann k) (tin := Q0f.tin) (tout := Q0f.tout) (fun x K => Q0f.c k x.1 x.2.1 K) Tryz.func174 (by kernel_rfl) (by kernel_rfl) Q3.nil (Q0f.body k)
def Q0G.c (k : Nat) {ρ : Type} (bits : Int) (K : (List Int) × Bool × Unit → Option ρ) : Option ρ :=
 let v0 : Int := (Q22 IntKind.u32 bits (24 : Int))
 let v1 : Int := (Q0U BinOp.and IntKind.u32 bits (8388607 : Int))
 (Q0O k (IntKind.wrap IntKind.u64 v1)).bind fun t2 => bif (decide ((IntKind.wrap IntKind.i64 v0) ≤ (3 : Int))) then (let v3 : (List Int) := t2.1
 let v4 : Int := (IntKind.wrap IntKind.i64 ((IntKind.wrap IntKind.i64 v0) - (3 : Int)))
 (Q0f k v3 v4).bind fun t5 => K (t5.1, (true, ()))) else (let v6 : (List Int) := t2.1
 (Q0I k v6).bind fun t7 => bif t7.1 then (let v8 : (List Int) := t2.1
 K (v8, (true, ()))) else (let v9 : (List Int) := t2.1
 (Q07 k v9).bind fun t10 => let v11 : Int := (IntKind.wrap IntKind.i64 ((IntKind.wrap IntKind.i64 v0) - (3 : Int)))
 let v12 : Int := (IntKind.wrap IntKind.i64 (v11 * (8 : Int)))
 let v13 : Int := (IntKind.wrap IntKind.i64 (t10.1 + v12))
 bif (decide (v13 > (256 : Int))) then (let v14 : (List Int) := (List.replicate 4 (0 : Int))
 K (v14, (false, ()))) else (let v15 : (List Int) := t2.1
 let v16 : Int := (IntKind.wrap IntKind.i64 ((IntKind.wrap IntKind.i64 v0) - (3 : Int)))
 (Q0f k v15 v16).bind fun t17 => K (t17.1, (true, ())))))
def Q0G (k : Nat) (bits : Int) : Option ((List Int) × Bool × Unit) := Q0G.c k bits some
def Q0G.tin : List Ty := [(.int .u32)]
def Q0G.tout : List Ty := [Qed, .bool]
def Q0G.sem (k : Nat) : Qt := QL Q0G.tin Q0G.tout fun x => Q0G k x.1
noncomputable def Q0G.ctx (k : Nat) : Ctx := ⟨Tryz.prog, gam [(173, (Q0O.sem k)), (174, (Q0f.sem k)), (168, (Q0I.sem k)), (175, (Q07.sem k))]⟩
theorem Q0G.gok (k : Nat) : ∀ f, Qo Tryz.prog f ((Q0G.ctx k).Γ f) := (Qd (Q0O.sem_ok k) (Qd (Q0f.sem_ok k) (Qd (Q0I.sem_ok k) (Qd (Q07.sem_ok k) QU))))
def Q0G.ann (k : Nat) : Ann := .nil
theorem Q0G.body (k : Nat) : Q0C (Q0G.ctx k) Tryz.f167 (Func.code Tryz.f167) (Q0G.ann k) Q0G.tin Q0G.tout (fun x K => Q0G.c k x.1 K) := by
 intro ρ x K; kernel_rfl
theorem Q0G.sem_ok (k : Nat) : Qo Tryz.prog 167 (Q0G.sem k) :=
 Qw (C := Q0G.ctx k) (Q0G.gok k) Tryz.mix (c := Func.code Tryz.f167) (ann := Q0G.ann k) (tin := Q0G.tin) (tout := Q0G.tout) (fun x K => Q0G.c k x.1 K) Tryz.func167 (by kernel_rfl) (by kernel_rfl) Q3.nil (Q0G.body k)
def Q0v.c (k : Nat) {ρ : Type}  (K : (List Int) × Unit → Option ρ) : Option ρ :=
 (Q0G k (545259519 : Int)).bind fun t0 => let v1 : (List Int) := t0.1
 K (v1, ())
def Q0v (k : Nat)  : Option Qee := Q0v.c k  some
def Q0v.tin : List Ty := []
def Q0v.tout : List Ty := [Qed]
def Q0v.sem (k : Nat) : Qt := QL Q0v.tin Q0v.tout fun x => Q0v k 
noncomputable def Q0v.ctx (k : Nat) : Ctx := ⟨Tryz.prog, gam [(167, (Q0G.sem k))]⟩
theorem Q0v.gok (k : Nat) : ∀ f, Qo Tryz.prog f ((Q0v.ctx k).Γ f) := (Qd (Q0G.sem_ok k) QU)
def Q0v.ann (k : Nat) : Ann := .nil
theorem Q0v.body (k : Nat) : Q0C (Q0v.ctx k) Tryz.f169 (Func.code Tryz.f169) (Q0v.ann k) Q0v.tin Q0v.tout (fun x K => Q0v.c k  K) := by
 intro ρ x K; kernel_rfl
theorem Q0v.sem_ok (k : Nat) : Qo Tryz.prog 169 (Q0v.sem k) :=
 Qw (C := Q0v.ctx k) (Q0v.gok k) Tryz.mix (c := Func.code Tryz.f169) (ann := Q0v.ann k) (tin := Q0v.tin) (tout := Q0v.tout) (fun x K => Q0v.c k  K) Tryz.func169 (by kernel_rfl) (by kernel_rfl) Q3.nil (Q0v.body k)
abbrev Q0.l0.σ : Type := (Nat × Nat) × Int × Int × (List Int) × Unit
abbrev Q0.l0.τ : Type := Qee 
def Q0.l0.r (k : Nat) {ρ : Type} (x : Q0.l0.σ) (kn : Q0.l0.σ → Option ρ) (ke : Q0.l0.τ → Option ρ) : Option ρ :=
 bif (decide (x.2.1 < x.2.2.1)) then (bif (decide (((0 : Int) ≤ x.2.2.1) ∧ (x.2.2.1 < ((x.1.2 : Nat) : Int)))) then (let v1 : Int := (List.getD x.2.2.2.1 (x.1.1 + (Int.toNat x.2.2.1)) (0 : Int))
 bif (decide (((0 : Int) ≤ x.2.1) ∧ (x.2.1 < ((x.1.2 : Nat) : Int)))) then (let v2 : Int := (List.getD x.2.2.2.1 (x.1.1 + (Int.toNat x.2.1)) (0 : Int))
 bif (decide (((0 : Int) ≤ x.2.1) ∧ (x.2.1 < ((x.1.2 : Nat) : Int)))) then (bif (decide (((0 : Int) ≤ x.2.2.1) ∧ (x.2.2.1 < ((x.1.2 : Nat) : Int)))) then (let v3 : Int := (IntKind.wrap IntKind.i64 (x.2.1 + (1 : Int)))
 let v4 : Int := (IntKind.wrap IntKind.i64 (x.2.2.1 - (1 : Int)))
 kn ((x.1.1, x.1.2), (v3, (v4, ((List.set (List.set x.2.2.2.1 (x.1.1 + (Int.toNat x.2.1)) v1) (x.1.1 + (Int.toNat x.2.2.1)) v2), ()))))) else (none)) else (none)) else (none)) else (none)) else (ke (x.2.2.2.1, ()))
def Q0.l0 (k : Nat) : Nat → Q0.l0.σ → Option Q0.l0.τ := Q0T (Q0.l0.r k)
def Q0.l0.T : StT := ⟨.slr 0 [] :: us 1 ++ .dat (.int .i64) :: .dat (.int .i64) :: us 24, [.dat Qed]⟩
def Q0.l0.os : List Out := [⟨(.exit 0), [.mask [], .auto 1], ⟨us 28, [.dat Qed]⟩⟩]
abbrev Q0.τ : Type := Qee 
def Q0.c (k : Nat) {ρ : Type} (s : (Nat × Nat)) (b0 : (List Int)) (K : Q0.τ → Option ρ) : Option ρ :=
 let v0 : Int := (IntKind.wrap IntKind.i64 (((s.2 : Nat) : Int) - (1 : Int)))
 (Q0.l0 k k ((s.1, s.2), ((0 : Int), (v0, (b0, ()))))).bind fun t5 => K (t5.1, ())
def Q0 (k : Nat) (s : (Nat × Nat)) (b0 : (List Int)) : Option Q0.τ := Q0.c k s b0 some
def Q0.T : Q1d := ⟨[.slr 0 []], [.dat Qed], 1⟩
def Q0.os : List Out := [⟨.ret, [.auto 1], ⟨[], [.dat Qed]⟩⟩]
def Q0.sem (k : Nat) : Qt := Q1o Q0.T Q0.os fun x => Q0 k x.1 x.2.1
noncomputable def Q0.ctx (k : Nat) : Ctx := ⟨Tryz.prog, gam []⟩
theorem Q0.gok (k : Nat) : ∀ f, Qo Tryz.prog f ((Q0.ctx k).Γ f) := QU
theorem Q0.l0.round (k : Nat) : Q0V (Q0.ctx k) (Q0n (Func.code Tryz.f170) [1, 0, 0]) (.nil) Q0.l0.T [.mask [0, 2, 3], .auto 1] Q0.l0.os (Q0.l0.r k) := by
 intro ρ x kn ke; kernel_rfl
theorem Q0.l0.ok (k : Nat) : StOK 1 Tryz.prog (.loop (Q0n (Func.code Tryz.f170) [1, 0, 0])) (QK Q0.l0.T Q0.l0.os (Q0.l0 k k)) :=
 Q0X (C := Q0.ctx k) (Q0.gok k) Tryz.mix Q3.nil (by kernel_rfl) (by kernel_rfl) (by kernel_rfl) (Q0.l0.round k) k
def Q0.ann (k : Nat) : Ann := .node [] none (.nil) (.node [] none (.node [.mask [0, 2, 3], .auto 1] (some (QK Q0.l0.T Q0.l0.os (Q0.l0 k k))) .nil .nil) (.nil))
theorem Q0.body (k : Nat) : Q1y (Q0.ctx k) Tryz.f170 (Func.code Tryz.f170) (Q0.ann k) Q0.T Q0.os (fun x K => Q0.c k x.1 x.2.1 K) := by
 intro ρ x K; kernel_rfl
theorem Q0.sem_ok (k : Nat) : Qo Tryz.prog 170 (Q0.sem k) :=
 Q0Y (C := Q0.ctx k) (Q0.gok k) Tryz.mix (c := Func.code Tryz.f170) (ann := Q0.ann k) (T := Q0.T) (os := Q0.os) (fun x K => Q0.c k x.1 x.2.1 K) Tryz.func170 (by kernel_rfl) (by kernel_rfl) (Q3.seq Q3.nil (Q3.block (Q3.loop (by kernel_rfl) (Q0.l0.ok k)))) (Q0.body k) (by kernel_rfl) (by kernel_rfl) (by kernel_rfl)
def Q05.c (k : Nat) {ρ : Type} (x_0 : Int) (K : Bool × Unit → Option ρ) : Option ρ :=
 K ((x_0 != x_0), ())
def Q05 (k : Nat) (x_0 : Int) : Option (Bool × Unit) := Q05.c k x_0 some
def Q05.tin : List Ty := [(.int .u64)]
def Q05.tout : List Ty := [.bool]
def Q05.sem (k : Nat) : Qt := QL Q05.tin Q05.tout fun x => Q05 k x.1
noncomputable def Q05.ctx (k : Nat) : Ctx := ⟨Tryz.prog, gam []⟩
theorem Q05.gok (k : Nat) : ∀ f, Qo Tryz.prog f ((Q05.ctx k).Γ f) := QU
def Q05.ann (k : Nat) : Ann := .nil
theorem Q05.body (k : Nat) : Q0C (Q05.ctx k) Tryz.f180 (Func.code Tryz.f180) (Q05.ann k) Q05.tin Q05.tout (fun x K => Q05.c k x.1 K) := by
 intro ρ x K; kernel_rfl
theorem Q05.sem_ok (k : Nat) : Qo Tryz.prog 180 (Q05.sem k) :=
 Qw (C := Q05.ctx k) (Q05.gok k) Tryz.mix (c := Func.code Tryz.f180) (ann := Q05.ann k) (tin := Q05.tin) (tout := Q05.tout) (fun x K => Q05.c k x.1 K) Tryz.func180 (by kernel_rfl) (by kernel_rfl) Q3.nil (Q05.body k)
def QS.c (k : Nat) {ρ : Type} (x_0 : Int) (y : Int) (K : Int × Unit → Option ρ) : Option ρ :=
 (Q05 k x_0).bind fun t0 => (Q05 k y).bind fun t1 => bif t0.1 then (bif t1.1 then (K ((0 : Int), ())) else (K ((-(1 : Int)), ()))) else (bif t1.1 then (K ((1 : Int), ())) else (bif (decide (x_0 < y)) then (K ((-(1 : Int)), ())) else (bif (decide (x_0 > y)) then (K ((1 : Int), ())) else (K ((0 : Int), ())))))
def QS (k : Nat) (x_0 : Int) (y : Int) : Option (Int × Unit) := QS.c k x_0 y some
def QS.tin : List Ty := [(.int .u64), (.int .u64)]
def QS.tout : List Ty := [(.int .i64)]
def QS.sem (k : Nat) : Qt := QL QS.tin QS.tout fun x => QS k x.1 x.2.1
noncomputable def QS.ctx (k : Nat) : Ctx := ⟨Tryz.prog, gam [(180, (Q05.sem k))]⟩
theorem QS.gok (k : Nat) : ∀ f, Qo Tryz.prog f ((QS.ctx k).Γ f) := (Qd (Q05.sem_ok k) QU)
def QS.ann (k : Nat) : Ann := .nil
theorem QS.body (k : Nat) : Q0C (QS.ctx k) Tryz.f176 (Func.code Tryz.f176) (QS.ann k) QS.tin QS.tout (fun x K => QS.c k x.1 x.2.1 K) := by
 intro ρ x K; kernel_rfl
theorem QS.sem_ok (k : Nat) : Qo Tryz.prog 176 (QS.sem k) :=
 Qw (C := QS.ctx k) (QS.gok k) Tryz.mix (c := Func.code Tryz.f176) (ann := QS.ann k) (tin := QS.tin) (tout := QS.tout) (fun x K => QS.c k x.1 x.2.1 K) Tryz.func176 (by kernel_rfl) (by kernel_rfl) Q3.nil (QS.body k)
abbrev Q2.l0.σ : Type := (List Int) × (List Int) × (List Int) × Int × Int × Unit
abbrev Q2.l0.τ : Type := (Int × Unit) ⊕ ((List Int) × (List Int) × Unit)
def Q2.l0.r (k : Nat) {ρ : Type} (x : Q2.l0.σ) (kn : Q2.l0.σ → Option ρ) (ke : Q2.l0.τ → Option ρ) : Option ρ :=
 bif (decide (x.2.2.2.2.1 < x.2.2.2.1)) then (bif (decide (((0 : Int) ≤ x.2.2.2.2.1) ∧ (x.2.2.2.2.1 < (((List.length x.2.2.1) : Nat) : Int)))) then (let v1 : Int := (List.getD x.2.2.1 (Int.toNat x.2.2.2.2.1) (0 : Int))
 let v2 : Int := (((List.length x.2.1) : Nat) : Int)
 bif (decide (x.2.2.2.2.1 ≥ v2)) then (ke (.inl ((1 : Int), ()))) else (bif (decide (((0 : Int) ≤ x.2.2.2.2.1) ∧ (x.2.2.2.2.1 < (((List.length x.2.1) : Nat) : Int)))) then (let v3 : Int := (List.getD x.2.1 (Int.toNat x.2.2.2.2.1) (0 : Int))
 (QS k v1 v3).bind fun t4 => bif (t4.1 != (0 : Int)) then (ke (.inl (t4.1, ()))) else (let v5 : Int := (IntKind.wrap IntKind.i64 (x.2.2.2.2.1 + (1 : Int)))
 kn (x.1, (x.2.1, (x.2.2.1, (x.2.2.2.1, (v5, ()))))))) else (none))) else (none)) else (ke (.inr (x.1, (x.2.1, ()))))
def Q2.l0 (k : Nat) : Nat → Q2.l0.σ → Option Q2.l0.τ := Q0T (Q2.l0.r k)
def Q2.l0.T : StT := ⟨.dat Qef :: .dat Qef :: us 7 ++ .dat Qef :: .dat (.int .i64) :: .dat (.int .i64) :: us 24, []⟩
def Q2.l0.os : List Out := [⟨.ret, [.mask [4], .auto 0], ⟨us 4 ++ .dat (.int .i64) :: us 31, []⟩⟩, ⟨(.exit 0), [.mask [0, 1], .auto 0], ⟨.dat Qef :: .dat Qef :: us 34, []⟩⟩]
def Q2.c (k : Nat) {ρ : Type} (s1 : (List Int)) (s2 : (List Int)) (K : Int × Unit → Option ρ) : Option ρ :=
  let v0 : Int := (((List.length s1) : Nat) : Int)
  (Q2.l0 k k (s1, (s2, (s1, (v0, ((0 : Int), ())))))).bind fun t6 => (match t6 with
 | .inl t7 => (K (t7.1, ()))
 | .inr (t8) => (let v9 : Int := (((List.length t8.1) : Nat) : Int)
  let v10 : Int := (((List.length t8.2.1) : Nat) : Int)
  bif (decide (v9 < v10)) then (K ((-(1 : Int)), ())) else (K ((0 : Int), ()))))
def Q2 (k : Nat) (s1 : (List Int)) (s2 : (List Int)) : Option (Int × Unit) := Q2.c k s1 s2 some
def Q2.tin : List Ty := [Qef, Qef]
def Q2.tout : List Ty := [(.int .i64)]
def Q2.sem (k : Nat) : Qt := QL Q2.tin Q2.tout fun x => Q2 k x.1 x.2.1
noncomputable def Q2.ctx (k : Nat) : Ctx := ⟨Tryz.prog, gam [(176, (QS.sem k))]⟩
theorem Q2.gok (k : Nat) : ∀ f, Qo Tryz.prog f ((Q2.ctx k).Γ f) := (Qd (QS.sem_ok k) QU)
theorem Q2.l0.round (k : Nat) : Q0V (Q2.ctx k) (Q0n (Func.code Tryz.f171) [1, 0, 1, 0, 0]) (.nil) Q2.l0.T [.mask [0, 1, 9, 10, 11], .auto 0] Q2.l0.os (Q2.l0.r k) := by
 intro ρ x kn ke; kernel_rfl
theorem Q2.l0.ok (k : Nat) : StOK 0 Tryz.prog (.loop (Q0n (Func.code Tryz.f171) [1, 0, 1, 0, 0])) (QK Q2.l0.T Q2.l0.os (Q2.l0 k k)) :=
 Q0X (C := Q2.ctx k) (Q2.gok k) Tryz.mix Q3.nil (by kernel_rfl) (by kernel_rfl) (by kernel_rfl) (Q2.l0.round k) k
def Q2.ann (k : Nat) : Ann := .node [] none (.nil) (.node [] none (.node [] none (.nil) (.node [] none (.node [] (some (QK Q2.l0.T Q2.l0.os (Q2.l0 k k))) .nil .nil) (.nil))) (.nil))
theorem Q2.body (k : Nat) : Q0C (Q2.ctx k) Tryz.f171 (Func.code Tryz.f171) (Q2.ann k) Q2.tin Q2.tout (fun x K => Q2.c k x.1 x.2.1 K) := by
 intro ρ x K; kernel_rfl
theorem Q2.sem_ok (k : Nat) : Qo Tryz.prog 171 (Q2.sem k) :=
 Qw (C := Q2.ctx k) (Q2.gok k) Tryz.mix (c := Func.code Tryz.f171) (ann := Q2.ann k) (tin := Q2.tin) (tout := Q2.tout) (fun x K => Q2.c k x.1 x.2.1 K) Tryz.func171 (by kernel_rfl) (by kernel_rfl) (Q3.seq Q3.nil (Q3.seq (Q3.seq Q3.nil (Q3.block (Q3.loop (by kernel_rfl) (Q2.l0.ok k)))) Q3.nil)) (Q2.body k)
def Q0q.c (k : Nat) {ρ : Type} (a : (List Int)) (b : (List Int)) (K : Int × Unit → Option ρ) : Option ρ :=
 (Q0 k (0, 4) a).bind fun t0 => (Q0 k (0, 4) b).bind fun t1 => (Q2 k (List.take 4 (List.drop 0 t0.1)) (List.take 4 (List.drop 0 t1.1))).bind fun t2 => K (t2.1, ())
def Q0q (k : Nat) (a : (List Int)) (b : (List Int)) : Option (Int × Unit) := Q0q.c k a b some
def Q0q.tin : List Ty := [Qed, Qed]
def Q0q.tout : List Ty := [(.int .i64)]
def Q0q.sem (k : Nat) : Qt := QL Q0q.tin Q0q.tout fun x => Q0q k x.1 x.2.1
noncomputable def Q0q.ctx (k : Nat) : Ctx := ⟨Tryz.prog, gam [(170, (Q0.sem k)), (171, (Q2.sem k))]⟩
theorem Q0q.gok (k : Nat) : ∀ f, Qo Tryz.prog f ((Q0q.ctx k).Γ f) := (Qd (Q0.sem_ok k) (Qd (Q2.sem_ok k) QU))
def Q0q.ann (k : Nat) : Ann := .nil
theorem Q0q.body (k : Nat) : Q0C (Q0q.ctx k) Tryz.f161 (Func.code Tryz.f161) (Q0q.ann k) Q0q.tin Q0q.tout (fun x K => Q0q.c k x.1 x.2.1 K) := by
 intro ρ x K; kernel_rfl
theorem Q0q.sem_ok (k : Nat) : Qo Tryz.prog 161 (Q0q.sem k) :=
 Qw (C := Q0q.ctx k) (Q0q.gok k) Tryz.mix (c := Func.code Tryz.f161) (ann := Q0q.ann k) (tin := Q0q.tin) (tout := Q0q.tout) (fun x K => Q0q.c k x.1 x.2.1 K) Tryz.func161 (by kernel_rfl) (by kernel_rfl) Q3.nil (Q0q.body k)
def Q0p.c (k : Nat) {ρ : Type} (bits : Int) (K : (List Int) × Int × Unit → Option ρ) : Option ρ :=
 (Q0G k bits).bind fun t0 => let v1 : (List Int) := t0.1
 bif (!t0.2.1) then (let v2 : (List Int) := (List.replicate 4 (0 : Int))
 K (v2, ((50 : Int), ()))) else (let v3 : Int := (Q0U BinOp.and IntKind.u32 bits (8388608 : Int))
 bif (v3 != (0 : Int)) then (let v4 : (List Int) := (List.replicate 4 (0 : Int))
 K (v4, ((50 : Int), ()))) else ((Q0I k v1).bind fun t5 => bif t5.1 then (let v6 : (List Int) := (List.replicate 4 (0 : Int))
 K (v6, ((50 : Int), ()))) else ((Q0v k ).bind fun t7 => (Q0q k v1 t7.1).bind fun t8 => bif (decide (t8.1 > (0 : Int))) then (let v9 : (List Int) := (List.replicate 4 (0 : Int))
 K (v9, ((50 : Int), ()))) else (K (v1, ((0 : Int), ()))))))
def Q0p (k : Nat) (bits : Int) : Option ((List Int) × Int × Unit) := Q0p.c k bits some
def Q0p.tin : List Ty := [(.int .u32)]
def Q0p.tout : List Ty := [Qed, (.int .i64)]
def Q0p.sem (k : Nat) : Qt := QL Q0p.tin Q0p.tout fun x => Q0p k x.1
noncomputable def Q0p.ctx (k : Nat) : Ctx := ⟨Tryz.prog, gam [(167, (Q0G.sem k)), (168, (Q0I.sem k)), (169, (Q0v.sem k)), (161, (Q0q.sem k))]⟩
theorem Q0p.gok (k : Nat) : ∀ f, Qo Tryz.prog f ((Q0p.ctx k).Γ f) := (Qd (Q0G.sem_ok k) (Qd (Q0I.sem_ok k) (Qd (Q0v.sem_ok k) (Qd (Q0q.sem_ok k) QU))))
def Q0p.ann (k : Nat) : Ann := .nil
theorem Q0p.body (k : Nat) : Q0C (Q0p.ctx k) Tryz.f160 (Func.code Tryz.f160) (Q0p.ann k) Q0p.tin Q0p.tout (fun x K => Q0p.c k x.1 K) := by
 intro ρ x K; kernel_rfl
theorem Q0p.sem_ok (k : Nat) : Qo Tryz.prog 160 (Q0p.sem k) :=
 Qw (C := Q0p.ctx k) (Q0p.gok k) Tryz.mix (c := Func.code Tryz.f160) (ann := Q0p.ann k) (tin := Q0p.tin) (tout := Q0p.tout) (fun x K => Q0p.c k x.1 K) Tryz.func160 (by kernel_rfl) (by kernel_rfl) Q3.nil (Q0p.body k)
abbrev Q0A.l0.σ : Type := (List Int) × Int × (List Int) × (List Int) × Unit
abbrev Q0A.l0.τ : Type := ((List Int) × (List Int) × Unit)
def Q0A.l0.r (k : Nat) {ρ : Type} (x : Q0A.l0.σ) (kn : Q0A.l0.σ → Option ρ) (ke : Q0A.l0.τ → Option ρ) : Option ρ :=
 bif (decide (x.2.1 < (32 : Int))) then (bif (decide (((0 : Int) ≤ x.2.1) ∧ (x.2.1 < ((32 : Nat) : Int)))) then (let v0 : Int := (List.getD x.1 (Int.toNat x.2.1) (0 : Int))
 let v1 : Int := (IntKind.wrap IntKind.i64 (Int.tdiv x.2.1 (8 : Int)))
 bif (decide (((0 : Int) ≤ v1) ∧ (v1 < ((4 : Nat) : Int)))) then (let v2 : Int := (List.getD x.2.2.2.1 (Int.toNat v1) (0 : Int))
 let v3 : Int := (Int.tmod x.2.1 (8 : Int))
 let v4 : Int := (IntKind.wrap IntKind.i64 ((8 : Int) * v3))
 bif (decide ((0 : Int) ≤ v4)) then (let v5 : Int := (Q0U BinOp.or IntKind.u64 v2 (Q2Y IntKind.u64 (IntKind.wrap IntKind.u64 v0) v4))
 bif (decide (((0 : Int) ≤ v1) ∧ (v1 < ((4 : Nat) : Int)))) then (let v6 : Int := (IntKind.wrap IntKind.i64 (x.2.1 + (1 : Int)))
 kn (x.1, (v6, (x.2.2.1, ((List.set x.2.2.2.1 (Int.toNat v1) v5), ()))))) else (none)) else (none)) else (none)) else (none)) else (ke (x.2.2.1, (x.2.2.2.1, ())))
def Q0A.l0 (k : Nat) : Nat → Q0A.l0.σ → Option Q0A.l0.τ := Q0T (Q0A.l0.r k)
def Q0A.l0.T : StT := ⟨us 2 ++ .ptr 0 [] :: .ptr 1 [] :: us 2 ++ .dat Qec :: .dat (.int .i64) :: us 17, [.dat Qed, .dat Qed]⟩
def Q0A.l0.os : List Out := [⟨(.exit 0), [.mask [2, 3], .auto 0], ⟨us 2 ++ .ptr 0 [] :: .ptr 1 [] :: us 21, [.dat Qed, .dat Qed]⟩⟩]
def Q0A.c (k : Nat) {ρ : Type} (h : (List Int)) (K : (List Int) × Unit → Option ρ) : Option ρ :=
 (Q0A.l0 k k (h, ((0 : Int), ((List.replicate 4 (0 : Int)), ((List.replicate 4 (0 : Int)), ()))))).bind fun t7 => let v8 : (List Int) := t7.2.1
 K (v8, ())
def Q0A (k : Nat) (h : (List Int)) : Option Qee := Q0A.c k h some
def Q0A.tin : List Ty := [Qec]
def Q0A.tout : List Ty := [Qed]
def Q0A.sem (k : Nat) : Qt := QL Q0A.tin Q0A.tout fun x => Q0A k x.1
noncomputable def Q0A.ctx (k : Nat) : Ctx := ⟨Tryz.prog, gam []⟩
theorem Q0A.gok (k : Nat) : ∀ f, Qo Tryz.prog f ((Q0A.ctx k).Γ f) := QU
theorem Q0A.l0.round (k : Nat) : Q0V (Q0A.ctx k) (Q0n (Func.code Tryz.f162) [1, 1, 0, 1, 0, 0]) (.nil) Q0A.l0.T [.mask [2, 3, 6, 7], .auto 0] Q0A.l0.os (Q0A.l0.r k) := by
 intro ρ x kn ke; kernel_rfl
theorem Q0A.l0.ok (k : Nat) : StOK 0 Tryz.prog (.loop (Q0n (Func.code Tryz.f162) [1, 1, 0, 1, 0, 0])) (QK Q0A.l0.T Q0A.l0.os (Q0A.l0 k k)) :=
 Q0X (C := Q0A.ctx k) (Q0A.gok k) Tryz.mix Q3.nil (by kernel_rfl) (by kernel_rfl) (by kernel_rfl) (Q0A.l0.round k) k
def Q0A.ann (k : Nat) : Ann := .node [] none (.nil) (.node [] none (.nil) (.node [] none (.node [] none (.nil) (.node [] none (.node [.mask [2, 3, 6, 7], .auto 0] (some (QK Q0A.l0.T Q0A.l0.os (Q0A.l0 k k))) .nil .nil) (.nil))) (.nil)))
theorem Q0A.body (k : Nat) : Q0C (Q0A.ctx k) Tryz.f162 (Func.code Tryz.f162) (Q0A.ann k) Q0A.tin Q0A.tout (fun x K => Q0A.c k x.1 K) := by
 intro ρ x K; kernel_rfl
theorem Q0A.sem_ok (k : Nat) : Qo Tryz.prog 162 (Q0A.sem k) :=
 Qw (C := Q0A.ctx k) (Q0A.gok k) Tryz.mix (c := Func.code Tryz.f162) (ann := Q0A.ann k) (tin := Q0A.tin) (tout := Q0A.tout) (fun x K => Q0A.c k x.1 K) Tryz.func162 (by kernel_rfl) (by kernel_rfl) (Q3.seq Q3.nil (Q3.seq Q3.nil (Q3.seq (Q3.seq Q3.nil (Q3.block (Q3.loop (by kernel_rfl) (Q0A.l0.ok k)))) Q3.nil))) (Q0A.body k)
def Q0x.c (k : Nat) {ρ : Type} (id : (List Int)) (bits : Int) (K : Bool × Unit → Option ρ) : Option ρ :=
 (Q0p k bits).bind fun t0 => let v1 : (List Int) := t0.1
 let v2 : Int := t0.2.1
 bif (v2 == (0 : Int)) then ((Q0A k id).bind fun t3 => (Q0q k t3.1 v1).bind fun t4 => K ((decide (t4.1 ≤ (0 : Int))), ())) else (K (false, ()))
def Q0x (k : Nat) (id : (List Int)) (bits : Int) : Option (Bool × Unit) := Q0x.c k id bits some
def Q0x.tin : List Ty := [Qec, (.int .u32)]
def Q0x.tout : List Ty := [.bool]
def Q0x.sem (k : Nat) : Qt := QL Q0x.tin Q0x.tout fun x => Q0x k x.1 x.2.1
noncomputable def Q0x.ctx (k : Nat) : Ctx := ⟨Tryz.prog, gam [(160, (Q0p.sem k)), (162, (Q0A.sem k)), (161, (Q0q.sem k))]⟩
theorem Q0x.gok (k : Nat) : ∀ f, Qo Tryz.prog f ((Q0x.ctx k).Γ f) := (Qd (Q0p.sem_ok k) (Qd (Q0A.sem_ok k) (Qd (Q0q.sem_ok k) QU)))
def Q0x.ann (k : Nat) : Ann := .nil
theorem Q0x.body (k : Nat) : Q0C (Q0x.ctx k) Tryz.f149 (Func.code Tryz.f149) (Q0x.ann k) Q0x.tin Q0x.tout (fun x K => Q0x.c k x.1 x.2.1 K) := by
 intro ρ x K; kernel_rfl
theorem Q0x.sem_ok (k : Nat) : Qo Tryz.prog 149 (Q0x.sem k) :=
 Qw (C := Q0x.ctx k) (Q0x.gok k) Tryz.mix (c := Func.code Tryz.f149) (ann := Q0x.ann k) (tin := Q0x.tin) (tout := Q0x.tout) (fun x K => Q0x.c k x.1 x.2.1 K) Tryz.func149 (by kernel_rfl) (by kernel_rfl) Q3.nil (Q0x.body k)
def Q0F.c (k : Nat) {ρ : Type} (h : Qe2) (K : Bool × Unit → Option ρ) : Option ρ :=
 (Q0J k (h.1, (h.2.1, (h.2.2.1, (h.2.2.2.1, (h.2.2.2.2.1, (h.2.2.2.2.2.1, ()))))))).bind fun t0 => let v1 : Int := h.2.2.2.2.1
 (Q0x k t0.1 v1).bind fun t2 => K (t2.1, ())
def Q0F (k : Nat) (h : Qe2) : Option (Bool × Unit) := Q0F.c k h some
def Q0F.tin : List Ty := [QdW]
def Q0F.tout : List Ty := [.bool]
def Q0F.sem (k : Nat) : Qt := QL Q0F.tin Q0F.tout fun x => Q0F k x.1
noncomputable def Q0F.ctx (k : Nat) : Ctx := ⟨Tryz.prog, gam [(46, (Q0J.sem k)), (149, (Q0x.sem k))]⟩
theorem Q0F.gok (k : Nat) : ∀ f, Qo Tryz.prog f ((Q0F.ctx k).Γ f) := (Qd (Q0J.sem_ok k) (Qd (Q0x.sem_ok k) QU))
def Q0F.ann (k : Nat) : Ann := .nil
theorem Q0F.body (k : Nat) : Q0C (Q0F.ctx k) Tryz.f135 (Func.code Tryz.f135) (Q0F.ann k) Q0F.tin Q0F.tout (fun x K => Q0F.c k x.1 K) := by
 intro ρ x K; kernel_rfl
theorem Q0F.sem_ok (k : Nat) : Qo Tryz.prog 135 (Q0F.sem k) :=
 Qw (C := Q0F.ctx k) (Q0F.gok k) Tryz.mix (c := Func.code Tryz.f135) (ann := Q0F.ann k) (tin := Q0F.tin) (tout := Q0F.tout) (fun x K => Q0F.c k x.1 K) Tryz.func135 (by kernel_rfl) (by kernel_rfl) Q3.nil (Q0F.body k)
abbrev QW.l0.σ : Type := Int × Int × Qe2 × Qe2 × Qe2 × Unit
abbrev QW.l0.τ : Type := (Bool × Qe2 × Unit) ⊕ (Qe2 × Qe2 × Unit)
def QW.l0.r (k : Nat) {ρ : Type} (x : QW.l0.σ) (kn : QW.l0.σ → Option ρ) (ke : QW.l0.τ → Option ρ) : Option ρ :=
 bif (decide (x.2.1 < x.1)) then ((Q0F k (x.2.2.2.2.1.1, (x.2.2.2.2.1.2.1, (x.2.2.2.2.1.2.2.1, (x.2.2.2.2.1.2.2.2.1, (x.2.2.2.2.1.2.2.2.2.1, (x.2.2.2.2.1.2.2.2.2.2.1, ()))))))).bind fun t1 => bif t1.1 then (ke (.inl (true, ((x.2.2.2.2.1.1, (x.2.2.2.2.1.2.1, (x.2.2.2.2.1.2.2.1, (x.2.2.2.2.1.2.2.2.1, (x.2.2.2.2.1.2.2.2.2.1, (x.2.2.2.2.1.2.2.2.2.2.1, ())))))), ())))) else (let v2 : Int := x.2.2.2.2.1.2.2.2.2.2.1
 bif (v2 == (4294967295 : Int)) then (ke (.inr ((x.2.2.1.1, (x.2.2.1.2.1, (x.2.2.1.2.2.1, (x.2.2.1.2.2.2.1, (x.2.2.1.2.2.2.2.1, (x.2.2.1.2.2.2.2.2.1, ())))))), ((x.2.2.2.1.1, (x.2.2.2.1.2.1, (x.2.2.2.1.2.2.1, (x.2.2.2.1.2.2.2.1, (x.2.2.2.1.2.2.2.2.1, (x.2.2.2.1.2.2.2.2.2.1, ())))))), ())))) else (let v3 : Int := x.2.2.2.2.1.2.2.2.2.2.1
 let v4 : Int := (IntKind.wrap IntKind.u32 (v3 + (1 : Int)))
 let v5 : Int := (IntKind.wrap IntKind.u64 (x.2.1 + (1 : Int)))
 kn (x.1, (v5, ((x.2.2.1.1, (x.2.2.1.2.1, (x.2.2.1.2.2.1, (x.2.2.1.2.2.2.1, (x.2.2.1.2.2.2.2.1, (x.2.2.1.2.2.2.2.2.1, ())))))), ((x.2.2.2.1.1, (x.2.2.2.1.2.1, (x.2.2.2.1.2.2.1, (x.2.2.2.1.2.2.2.1, (x.2.2.2.1.2.2.2.2.1, (x.2.2.2.1.2.2.2.2.2.1, ())))))), ((x.2.2.2.2.1.1, (x.2.2.2.2.1.2.1, (x.2.2.2.2.1.2.2.1, (x.2.2.2.2.1.2.2.2.1, (x.2.2.2.2.1.2.2.2.2.1, (v4, ())))))), ())))))))) else (ke (.inr ((x.2.2.1.1, (x.2.2.1.2.1, (x.2.2.1.2.2.1, (x.2.2.1.2.2.2.1, (x.2.2.1.2.2.2.2.1, (x.2.2.1.2.2.2.2.2.1, ())))))), ((x.2.2.2.1.1, (x.2.2.2.1.2.1, (x.2.2.2.1.2.2.1, (x.2.2.2.1.2.2.2.1, (x.2.2.2.1.2.2.2.2.1, (x.2.2.2.1.2.2.2.2.2.1, ())))))), ()))))
def QW.l0 (k : Nat) : Nat → QW.l0.σ → Option QW.l0.τ := Q0T (QW.l0.r k)
def QW.l0.T : StT := ⟨us 2 ++ .ptr 0 [] :: us 1 ++ .ptr 1 [] :: us 1 ++ .ptr 2 [] :: us 2 ++ .dat (.int .u64) :: .dat (.int .u64) :: us 13, [.dat QdW, .dat QdW, .dat QdW]⟩
def QW.l0.os : List Out := [⟨.ret, [.mask [4, 5], .auto 0], ⟨us 4 ++ .ptr 0 [] :: .dat .bool :: us 18, [.dat QdW]⟩⟩, ⟨(.exit 0), [.mask [2, 4], .auto 0], ⟨us 2 ++ .ptr 0 [] :: us 1 ++ .ptr 1 [] :: us 19, [.dat QdW, .dat QdW]⟩⟩]
def QW.c (k : Nat) {ρ : Type} (h : Qe2) (tries : Int) (K : Qe2 × Bool × Unit → Option ρ) : Option ρ :=
  let v0 : Int := (if ((4294967296 : Int) < tries) then (4294967296 : Int) else tries)
  (QW.l0 k k (v0, ((0 : Int), ((h.1, (h.2.1, (h.2.2.1, (h.2.2.2.1, (h.2.2.2.2.1, (h.2.2.2.2.2.1, ())))))), (((0 : Int), ((List.replicate 32 (0 : Int)), ((List.replicate 32 (0 : Int)), ((0 : Int), ((0 : Int), ((0 : Int), ())))))), ((h.1, (h.2.1, (h.2.2.1, (h.2.2.2.1, (h.2.2.2.2.1, (h.2.2.2.2.2.1, ())))))), ())))))).bind fun t6 => (match t6 with
 | .inl t7 => (K ((t7.2.1.1, (t7.2.1.2.1, (t7.2.1.2.2.1, (t7.2.1.2.2.2.1, (t7.2.1.2.2.2.2.1, (t7.2.1.2.2.2.2.2.1, ())))))), (t7.1, ())))
 | .inr (t8) => (K ((t8.1.1, (t8.1.2.1, (t8.1.2.2.1, (t8.1.2.2.2.1, (t8.1.2.2.2.2.1, (t8.1.2.2.2.2.2.1, ())))))), (false, ()))))
def QW (k : Nat) (h : Qe2) (tries : Int) : Option (Qe2 × Bool × Unit) := QW.c k h tries some
def QW.tin : List Ty := [QdW, (.int .u64)]
def QW.tout : List Ty := [QdW, .bool]
def QW.sem (k : Nat) : Qt := QL QW.tin QW.tout fun x => QW k x.1 x.2.1
noncomputable def QW.ctx (k : Nat) : Ctx := ⟨Tryz.prog, gam [(135, (Q0F.sem k))]⟩
theorem QW.gok (k : Nat) : ∀ f, Qo Tryz.prog f ((QW.ctx k).Γ f) := (Qd (Q0F.sem_ok k) QU)
theorem QW.l0.round (k : Nat) : Q0V (QW.ctx k) (Q0n (Func.code Tryz.f117) [1, 1, 0, 1, 0, 0]) (.nil) QW.l0.T [.mask [2, 4, 6, 9, 10], .auto 0] QW.l0.os (QW.l0.r k) := by
 intro ρ x kn ke; kernel_rfl
theorem QW.l0.ok (k : Nat) : StOK 0 Tryz.prog (.loop (Q0n (Func.code Tryz.f117) [1, 1, 0, 1, 0, 0])) (QK QW.l0.T QW.l0.os (QW.l0 k k)) :=
 Q0X (C := QW.ctx k) (QW.gok k) Tryz.mix Q3.nil (by kernel_rfl) (by kernel_rfl) (by kernel_rfl) (QW.l0.round k) k
def QW.ann (k : Nat) : Ann := .node [] none (.nil) (.node [] none (.nil) (.node [] none (.node [] none (.nil) (.node [] none (.node [.mask [2, 4, 6, 9, 10], .auto 0] (some (QK QW.l0.T QW.l0.os (QW.l0 k k))) .nil .nil) (.nil))) (.nil)))
theorem QW.body (k : Nat) : Q0C (QW.ctx k) Tryz.f117 (Func.code Tryz.f117) (QW.ann k) QW.tin QW.tout (fun x K => QW.c k x.1 x.2.1 K) := by
 intro ρ x K; kernel_rfl
theorem QW.sem_ok (k : Nat) : Qo Tryz.prog 117 (QW.sem k) :=
 Qw (C := QW.ctx k) (QW.gok k) Tryz.mix (c := Func.code Tryz.f117) (ann := QW.ann k) (tin := QW.tin) (tout := QW.tout) (fun x K => QW.c k x.1 x.2.1 K) Tryz.func117 (by kernel_rfl) (by kernel_rfl) (Q3.seq Q3.nil (Q3.seq Q3.nil (Q3.seq (Q3.seq Q3.nil (Q3.block (Q3.loop (by kernel_rfl) (QW.l0.ok k)))) Q3.nil))) (QW.body k)
abbrev QG.l0.σ : Type := QdY × Int × Int × Qe1 × Qe1 × QdY × Unit
abbrev QG.l0.τ : Type := (Qe1 × Qe1 × QdY × Unit)
def QG.l0.r (k : Nat) {ρ : Type} (x : QG.l0.σ) (kn : QG.l0.σ → Option ρ) (ke : QG.l0.τ → Option ρ) : Option ρ :=
 bif (decide (x.2.2.1 < x.2.1)) then (bif (decide (((0 : Int) ≤ x.2.2.1) ∧ (x.2.2.1 < (((List.length x.1) : Nat) : Int)))) then ((Q0w k ((List.getD x.1 (Int.toNat x.2.2.1) ((0 : Int), ([], ([], ((0 : Int), ()))))).1, ((List.getD x.1 (Int.toNat x.2.2.1) ((0 : Int), ([], ([], ((0 : Int), ()))))).2.1, ((List.getD x.1 (Int.toNat x.2.2.1) ((0 : Int), ([], ([], ((0 : Int), ()))))).2.2.1, ((List.getD x.1 (Int.toNat x.2.2.1) ((0 : Int), ([], ([], ((0 : Int), ()))))).2.2.2.1, ()))))).bind fun t3 => bif (Nat.ble (((List.length x.2.2.2.2.2.1) + (List.length (List.set (List.replicate 1 ((0 : Int), ([], ([], ((0 : Int), ()))))) 0 (t3.1.1, (t3.1.2.1, (t3.1.2.2.1, (t3.1.2.2.2.1, ()))))))) * 64) 140737488355328) then (let v4 : Int := (IntKind.wrap IntKind.i64 (x.2.2.1 + (1 : Int)))
 kn (x.1, (x.2.1, (v4, (((x.2.2.2.1.1.1, (x.2.2.2.1.1.2.1, (x.2.2.2.1.1.2.2.1, (x.2.2.2.1.1.2.2.2.1, (x.2.2.2.1.1.2.2.2.2.1, (x.2.2.2.1.1.2.2.2.2.2.1, ())))))), ((), ())), (((x.2.2.2.2.1.1.1, (x.2.2.2.2.1.1.2.1, (x.2.2.2.2.1.1.2.2.1, (x.2.2.2.2.1.1.2.2.2.1, (x.2.2.2.2.1.1.2.2.2.2.1, (x.2.2.2.2.1.1.2.2.2.2.2.1, ())))))), ((), ())), ((x.2.2.2.2.2.1 ++ (List.set (List.replicate 1 ((0 : Int), ([], ([], ((0 : Int), ()))))) 0 (t3.1.1, (t3.1.2.1, (t3.1.2.2.1, (t3.1.2.2.2.1, ())))))), ()))))))) else (none)) else (none)) else (ke (((x.2.2.2.1.1.1, (x.2.2.2.1.1.2.1, (x.2.2.2.1.1.2.2.1, (x.2.2.2.1.1.2.2.2.1, (x.2.2.2.1.1.2.2.2.2.1, (x.2.2.2.1.1.2.2.2.2.2.1, ())))))), ((), ())), (((x.2.2.2.2.1.1.1, (x.2.2.2.2.1.1.2.1, (x.2.2.2.2.1.1.2.2.1, (x.2.2.2.2.1.1.2.2.2.1, (x.2.2.2.2.1.1.2.2.2.2.1, (x.2.2.2.2.1.1.2.2.2.2.2.1, ())))))), ((), ())), (x.2.2.2.2.2.1, ()))))
def QG.l0 (k : Nat) : Nat → QG.l0.σ → Option QG.l0.τ := Q0T (QG.l0.r k)
def QG.l0.T : StT := ⟨us 8 ++ .ptr 0 [] :: us 3 ++ .ptr 1 [] :: us 17 ++ .dat QdS :: .dat (.int .i64) :: .dat (.int .i64) :: us 32, [.pair (.dat QdW) (.pair (.nils) (.dat .unit)), .pair (.dat QdW) (.pair (.vsl 2) (.dat .unit)), .vec QdU]⟩
def QG.l0.os : List Out := [⟨(.exit 0), [.mask [8, 12], .auto 0], ⟨us 8 ++ .ptr 0 [] :: us 3 ++ .ptr 1 [] :: us 52, [.pair (.dat QdW) (.pair (.nils) (.dat .unit)), .pair (.dat QdW) (.pair (.vsl 2) (.dat .unit)), .vec QdU]⟩⟩]
def QG.c (k : Nat) {ρ : Type} (prev : (List Int)) (time : Int) (bits : Int) (txs : QdY) (K : QdT × Int × Unit → Option ρ) : Option ρ :=
 (QZ k txs).bind fun t0 => let v1 : (List Int) := t0.1
 let v2 : Int := (((List.length txs) : Nat) : Int)
 (QG.l0 k k (txs, (v2, ((0 : Int), ((((0 : Int), ((List.replicate 32 (0 : Int)), ((List.replicate 32 (0 : Int)), ((0 : Int), ((0 : Int), ((0 : Int), ())))))), ((), ())), ((((1 : Int), (prev, (v1, (time, (bits, ((0 : Int), ())))))), ((), ())), ([], ()))))))).bind fun t5 => (Qy k ((t5.2.1.1.1, (t5.2.1.1.2.1, (t5.2.1.1.2.2.1, (t5.2.1.1.2.2.2.1, (t5.2.1.1.2.2.2.2.1, (t5.2.1.1.2.2.2.2.2.1, ())))))), (t5.2.2.1, ()))).bind fun t6 => let v7 : ByteArray := t6.1
 let v8 : Int := t6.2.1
 bif (v8 != (0 : Int)) then (K ((((0 : Int), ((List.replicate 32 (0 : Int)), ((List.replicate 32 (0 : Int)), ((0 : Int), ((0 : Int), ((0 : Int), ())))))), ([], ())), (v8, ()))) else ((QW k (t5.2.1.1.1, (t5.2.1.1.2.1, (t5.2.1.1.2.2.1, (t5.2.1.1.2.2.2.1, (t5.2.1.1.2.2.2.2.1, (t5.2.1.1.2.2.2.2.2.1, ())))))) (4294967296 : Int)).bind fun t9 => bif (!t9.2.1) then (K ((((0 : Int), ((List.replicate 32 (0 : Int)), ((List.replicate 32 (0 : Int)), ((0 : Int), ((0 : Int), ((0 : Int), ())))))), ([], ())), ((111 : Int), ()))) else (K (((t9.1.1, (t9.1.2.1, (t9.1.2.2.1, (t9.1.2.2.2.1, (t9.1.2.2.2.2.1, (t9.1.2.2.2.2.2.1, ())))))), (t5.2.2.1, ())), ((0 : Int), ()))))
def QG (k : Nat) (prev : (List Int)) (time : Int) (bits : Int) (txs : QdY) : Option (QdT × Int × Unit) := QG.c k prev time bits txs some
def QG.tin : List Ty := [Qec, (.int .u32), (.int .u32), QdS]
def QG.tout : List Ty := [QdR, (.int .i64)]
def QG.sem (k : Nat) : Qt := QL QG.tin QG.tout fun x => QG k x.1 x.2.1 x.2.2.1 x.2.2.2.1
noncomputable def QG.ctx (k : Nat) : Ctx := ⟨Tryz.prog, gam [(114, (QZ.sem k)), (115, (Q0w.sem k)), (116, (Qy.sem k)), (117, (QW.sem k))]⟩
theorem QG.gok (k : Nat) : ∀ f, Qo Tryz.prog f ((QG.ctx k).Γ f) := (Qd (QZ.sem_ok k) (Qd (Q0w.sem_ok k) (Qd (Qy.sem_ok k) (Qd (QW.sem_ok k) QU))))
theorem QG.l0.round (k : Nat) : Q0V (QG.ctx k) (Q0n (Func.code Tryz.f90) [1, 1, 1, 0, 1, 0, 0]) (.nil) QG.l0.T [.mask [8, 12, 30, 31, 32], .auto 0] QG.l0.os (QG.l0.r k) := by
 intro ρ x kn ke; kernel_rfl
theorem QG.l0.ok (k : Nat) : StOK 0 Tryz.prog (.loop (Q0n (Func.code Tryz.f90) [1, 1, 1, 0, 1, 0, 0])) (QK QG.l0.T QG.l0.os (QG.l0 k k)) :=
 Q0X (C := QG.ctx k) (QG.gok k) Tryz.mix Q3.nil (by kernel_rfl) (by kernel_rfl) (by kernel_rfl) (QG.l0.round k) k
def QG.ann (k : Nat) : Ann := .node [] none (.nil) (.node [] none (.nil) (.node [] none (.nil) (.node [] none (.node [] none (.nil) (.node [] none (.node [.mask [8, 12, 30, 31, 32], .auto 0, .own (.blk 1 [1]) QdU] (some (QK QG.l0.T QG.l0.os (QG.l0 k k))) .nil .nil) (.nil))) (.nil))))
theorem QG.body (k : Nat) : Q0C (QG.ctx k) Tryz.f90 (Func.code Tryz.f90) (QG.ann k) QG.tin QG.tout (fun x K => QG.c k x.1 x.2.1 x.2.2.1 x.2.2.2.1 K) := by
 intro ρ x K; kernel_rfl
theorem QG.sem_ok (k : Nat) : Qo Tryz.prog 90 (QG.sem k) :=
 Qw (C := QG.ctx k) (QG.gok k) Tryz.mix (c := Func.code Tryz.f90) (ann := QG.ann k) (tin := QG.tin) (tout := QG.tout) (fun x K => QG.c k x.1 x.2.1 x.2.2.1 x.2.2.2.1 K) Tryz.func90 (by kernel_rfl) (by kernel_rfl) (Q3.seq Q3.nil (Q3.seq Q3.nil (Q3.seq Q3.nil (Q3.seq (Q3.seq Q3.nil (Q3.block (Q3.loop (by kernel_rfl) (QG.l0.ok k)))) Q3.nil)))) (QG.body k)
def Q0a.c (k : Nat) {ρ : Type}  (K : QdT × Unit → Option ρ) : Option ρ :=
 (Qn k (0 : Int) (⟨(List.toArray [98, 101, 100, 114, 111, 99, 107])⟩ : ByteArray) (List.set (List.replicate 1 ((0 : Int), (ByteArray.empty, ()))) 0 ((5000 : Int), ((⟨(List.toArray [])⟩ : ByteArray), ())))).bind fun t0 => let v1 : Int := t0.2.1
 let v2 : (List Int) := (List.replicate 32 (0 : Int))
 (QG k v2 (1600000000 : Int) (545259519 : Int) (List.set (List.replicate 1 ((0 : Int), ([], ([], ((0 : Int), ()))))) 0 (t0.1.1, (t0.1.2.1, (t0.1.2.2.1, (t0.1.2.2.2.1, ())))))).bind fun t3 => let v4 : Int := t3.2.1
 K (((t3.1.1.1, (t3.1.1.2.1, (t3.1.1.2.2.1, (t3.1.1.2.2.2.1, (t3.1.1.2.2.2.2.1, (t3.1.1.2.2.2.2.2.1, ())))))), (t3.1.2.1, ())), ())
def Q0a (k : Nat)  : Option (QdT × Unit) := Q0a.c k  some
def Q0a.tin : List Ty := []
def Q0a.tout : List Ty := [QdR]
def Q0a.sem (k : Nat) : Qt := QL Q0a.tin Q0a.tout fun x => Q0a k 
noncomputable def Q0a.ctx (k : Nat) : Ctx := ⟨Tryz.prog, gam [(89, (Q8T Qn.tin Qn.tout fun x => Qn k x.1 x.2.1 x.2.2.1)), (90, (Q8T QG.tin QG.tout fun x => QG k x.1 x.2.1 x.2.2.1 x.2.2.2.1))]⟩
theorem Q0a.gok (k : Nat) : ∀ f, Qo Tryz.prog f ((Q0a.ctx k).Γ f) := (Qd (Q8n (Qn.sem_ok k)) (Qd (Q8n (QG.sem_ok k)) QU))
def Q0a.ann (k : Nat) : Ann := .nil
theorem Q0a.body (k : Nat) : Q0C (Q0a.ctx k) Tryz.f45 (Func.code Tryz.f45) (Q0a.ann k) Q0a.tin Q0a.tout (fun x K => Q0a.c k  K) := by
 intro ρ x K; kernel_rfl
theorem Q0a.sem_ok (k : Nat) : Qo Tryz.prog 45 (Q0a.sem k) :=
 Qw (C := Q0a.ctx k) (Q0a.gok k) Tryz.mix (c := Func.code Tryz.f45) (ann := Q0a.ann k) (tin := Q0a.tin) (tout := Q0a.tout) (fun x K => Q0a.c k  K) Tryz.func45 (by kernel_rfl) (by kernel_rfl) Q3.nil (Q0a.body k)
end Go.Am
