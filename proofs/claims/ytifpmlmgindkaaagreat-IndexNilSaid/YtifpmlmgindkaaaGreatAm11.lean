/- A part of a proof: a machine of abstract values that tells what functions of the program compute, and the plain facts on them. -/
import Derived.Test.YtifpmlmgindkaaaGreatAm10
import Derived.KernelRfl
set_option linter.unusedVariables false
set_option linter.unusedSimpArgs false
set_option linter.unnecessarySimpa false
set_option linter.unusedSectionVars false
namespace Go.Am
abbrev QdX : Ty := (.sl (.int .u64))
abbrev QdW : Type := ((List Int) × Unit)
abbrev QdV : Ty := (.arr 4 (.int .u64))
abbrev QdU : Ty := (.arr 32 (.int .u8))
abbrev QdT : Type := (ByteArray × Int × Unit)
abbrev QdS : Ty := (.sl  QdU )
abbrev QdR : Type := ((Unit × (Unit × Unit)) × Unit)
abbrev QdQ : Ty := (.sl  QdS )
abbrev QdP : Type := (List (Int × (ByteArray × Unit)))
abbrev QdO : Type := (Int × (Unit × (Unit × (Int × Unit))))
abbrev QdN : Ty := (.sl (.pair (.int .u64) (.pair .str .unit)))
abbrev QdM : Type := ( QdR  × (List Int) × Unit)
abbrev QdL : Type := (List (((List Int) × (Int × Unit)) × (ByteArray × (Int × Unit))))
abbrev QdK : Type := (Int × ((List Int) × ((List Int) × (Int × (Int × (Int × Unit))))))
abbrev QdJ : Type := ( QdK  × (Unit × Unit))
abbrev QdI : Ty := (.sl (.pair (.pair  QdU  (.pair (.int .u32) .unit)) (.pair .str (.pair (.int .u32) .unit))))
abbrev QdH : Type := (Int × ( QdL  × ( QdP  × (Int × Unit))))
abbrev QdG : Type := (List  QdH )
abbrev QdF : Type := ( QdH  × Unit)
abbrev QdE : Ty := (.pair (.int .u32) (.pair  QdU  (.pair  QdU  (.pair (.int .u32) (.pair (.int .u32) (.pair (.int .u32) .unit))))))
abbrev QdD : Type := ( QdH  ×  QdR  × (List Int) × Unit)
abbrev QdC : Ty := (.pair (.int .u32) (.pair  QdI  (.pair  QdN  (.pair (.int .u32) .unit))))
abbrev QdB : Type := ( QdK  × ( QdG  × Unit))
abbrev QdA : Ty := (.sl  QdC )
abbrev Qdz : Ty := (.pair  QdE  (.pair  QdA  .unit))
end Go.Am
namespace Go.Am
open Go Go.Proofs
set_option maxRecDepth 100000
abbrev Qq.p0.σ : Type := Int × ByteArray × QdP × QdO × Unit
abbrev Qq.p0.τ : Type := (Int × QdO × Unit) ⊕ (Int × ByteArray × QdP × QdO × Unit)
def Qq.p0.r (k : Nat) {ρ : Type} (x : Qq.p0.σ) (K : Qq.p0.τ → Option ρ) : Option ρ :=
 bif (decide (x.1 < (0 : Int))) then (K (.inl ((1 : Int), (((0 : Int), ((), ((), ((0 : Int), ())))), ())))) else (bif (decide (x.1 > (2147483647 : Int))) then (K (.inl ((1 : Int), (((0 : Int), ((), ((), ((0 : Int), ())))), ())))) else (let v0 : Int := (((ByteArray.size x.2.1) : Nat) : Int)
 bif (decide (v0 > (96 : Int))) then (K (.inl ((1 : Int), (((0 : Int), ((), ((), ((0 : Int), ())))), ())))) else (K (.inr (x.1, (x.2.1, (x.2.2.1, ((x.2.2.2.1.1, ((), ((), (x.2.2.2.1.2.2.2.1, ())))), ()))))))))
def Qq.p0 (k : Nat) (x : Qq.p0.σ) : Option Qq.p0.τ := Qq.p0.r k x some
def Qq.p0.T : StT := ⟨.dat (.int .i64) :: .dat .str :: .dat QdN :: us 3 ++ .ptr 0 [] :: us 32, [.pair (.dat (.int .u32)) (.pair (.nils) (.pair (.nils) (.dat (.pair (.int .u32) .unit))))]⟩
def Qq.p0.os : List Out := [⟨.ret, [.mask [6, 7], .auto 0], ⟨us 6 ++ .ptr 0 [] :: .dat (.int .i64) :: us 31, [.pair (.dat (.int .u32)) (.pair (.nils) (.pair (.nils) (.dat (.pair (.int .u32) .unit))))]⟩⟩, ⟨.normal, [.mask [0, 1, 2, 6], .auto 0], ⟨.dat (.int .i64) :: .dat .str :: .dat QdN :: us 3 ++ .ptr 0 [] :: us 32, [.pair (.dat (.int .u32)) (.pair (.nils) (.pair (.nils) (.dat (.pair (.int .u32) .unit))))]⟩⟩]
def Qq.c (k : Nat) {ρ : Type} (height : Int) (extra : ByteArray) (outs : QdP) (K : QdH × Int × Unit → Option ρ) : Option ρ :=
  (Qq.p0 k (height, (extra, (outs, (((0 : Int), ((), ((), ((0 : Int), ())))), ()))))).bind fun t1 => (match t1 with
 | .inl t2 => (K ((t2.2.1.1, ([], ([], (t2.2.1.2.2.2.1, ())))), (t2.1, ())))
 | .inr (t3) => ((QR k ).bind fun t4 => let v5 : Int := (IntKind.wrap IntKind.u32 t3.1)
  (Qv k v5 (((), ((), ())), ()) t4.2.1).bind fun t6 => (Qg k t3.2.1 (((), ((), ())), ()) t6.2.1).bind fun t7 => (Qx k (((), ((), ())), ()) t7.2.1).bind fun t8 => bif (Nat.ble ((List.length t3.2.2.1) * 24) 140737488355328) then (K (((1 : Int), ((List.set (List.replicate 1 (((List.replicate 32 (0 : Int)), ((0 : Int), ())), (ByteArray.empty, ((0 : Int), ())))) 0 (((List.replicate 32 (0 : Int)), ((4294967295 : Int), ())), (t8.1, ((4294967295 : Int), ())))), (t3.2.2.1, ((0 : Int), ())))), ((0 : Int), ()))) else (none)))
def Qq (k : Nat) (height : Int) (extra : ByteArray) (outs : QdP) : Option (QdH × Int × Unit) := Qq.c k height extra outs some
def Qq.tin : List Ty := [(.int .i64), .str, QdN]
def Qq.tout : List Ty := [QdC, (.int .i64)]
def Qq.sem (k : Nat) : Qr := QX Qq.tin Qq.tout fun x => Qq k x.1 x.2.1 x.2.2.1
noncomputable def Qq.ctx (k : Nat) : Ctx := ⟨Tryz.prog, gam [(33, (QR.sem k)), (36, (Qv.sem k)), (34, (Qg.sem k)), (38, (Qx.sem k))]⟩
theorem Qq.gok (k : Nat) : ∀ f, Qm Tryz.prog f ((Qq.ctx k).Γ f) := (Q8 (QR.sem_ok k) (Q8 (Qv.sem_ok k) (Q8 (Qg.sem_ok k) (Q8 (Qx.sem_ok k) QK))))
theorem Qq.p0.is (k : Nat) : Q2G (Qq.ctx k) (Q0y (Func.code Tryz.f89) [1, 0]) (.nil) Qq.p0.T Qq.p0.os (Qq.p0.r k) := by
 intro ρ x K; kernel_rfl
theorem Qq.p0.ok (k : Nat) : StOK 0 Tryz.prog (Q0y (Func.code Tryz.f89) [1, 0]) (QO Qq.p0.T Qq.p0.os (Qq.p0 k)) :=
 Q2w (C := Qq.ctx k) (T := Qq.p0.T) (os := Qq.p0.os) (Qq.gok k) Tryz.mix (fun x K => Qq.p0.r k x K) Q1.nil (by kernel_rfl) (by kernel_rfl) (Qq.p0.is k)
def Qq.ann (k : Nat) : Ann := .node [] none (.nil) (.node [] none (.node [.mask [0, 1, 2, 6], .auto 0] (some (QO Qq.p0.T Qq.p0.os (Qq.p0 k))) .nil .nil) (.nil))
theorem Qq.body (k : Nat) : Q0Y (Qq.ctx k) Tryz.f89 (Func.code Tryz.f89) (Qq.ann k) Qq.tin Qq.tout (fun x K => Qq.c k x.1 x.2.1 x.2.2.1 K) := by
 intro ρ x K; kernel_rfl
theorem Qq.sem_ok (k : Nat) : Qm Tryz.prog 89 (Qq.sem k) :=
 QD (C := Qq.ctx k) (Qq.gok k) Tryz.mix (c := Func.code Tryz.f89) (ann := Qq.ann k) (tin := Qq.tin) (tout := Qq.tout) (fun x K => Qq.c k x.1 x.2.1 x.2.2.1 K) Tryz.func89 (by kernel_rfl) (by kernel_rfl) (Q1.seq Q1.nil (Q1.seq (Q1.loop (by kernel_rfl) (Qq.p0.ok k)) Q1.nil)) (Qq.body k)
def Q0t.c (k : Nat) {ρ : Type} (n : Int) (K : Int × Unit → Option ρ) : Option ρ :=
 bif (decide (n < (253 : Int))) then (K ((1 : Int), ())) else (bif (decide (n < (65536 : Int))) then (K ((3 : Int), ())) else (bif (decide (n < (4294967296 : Int))) then (K ((5 : Int), ())) else (K ((9 : Int), ()))))
def Q0t (k : Nat) (n : Int) : Option (Int × Unit) := Q0t.c k n some
def Q0t.tin : List Ty := [(.int .u64)]
def Q0t.tout : List Ty := [(.int .i64)]
def Q0t.sem (k : Nat) : Qr := QX Q0t.tin Q0t.tout fun x => Q0t k x.1
noncomputable def Q0t.ctx (k : Nat) : Ctx := ⟨Tryz.prog, gam []⟩
theorem Q0t.gok (k : Nat) : ∀ f, Qm Tryz.prog f ((Q0t.ctx k).Γ f) := QK
def Q0t.ann (k : Nat) : Ann := .nil
theorem Q0t.body (k : Nat) : Q0Y (Q0t.ctx k) Tryz.f158 (Func.code Tryz.f158) (Q0t.ann k) Q0t.tin Q0t.tout (fun x K => Q0t.c k x.1 K) := by
 intro ρ x K; kernel_rfl
theorem Q0t.sem_ok (k : Nat) : Qm Tryz.prog 158 (Q0t.sem k) :=
 QD (C := Q0t.ctx k) (Q0t.gok k) Tryz.mix (c := Func.code Tryz.f158) (ann := Q0t.ann k) (tin := Q0t.tin) (tout := Q0t.tout) (fun x K => Q0t.c k x.1 K) Tryz.func158 (by kernel_rfl) (by kernel_rfl) Q1.nil (Q0t.body k)
def Q1m.c (k : Nat) {ρ : Type} (n : Int) (K : Int × Unit → Option ρ) : Option ρ :=
 (Q0t k (IntKind.wrap IntKind.u64 n)).bind fun t0 => let v1 : Int := (IntKind.wrap IntKind.i64 (t0.1 + n))
 K (v1, ())
def Q1m (k : Nat) (n : Int) : Option (Int × Unit) := Q1m.c k n some
def Q1m.tin : List Ty := [(.int .i64)]
def Q1m.tout : List Ty := [(.int .i64)]
def Q1m.sem (k : Nat) : Qr := QX Q1m.tin Q1m.tout fun x => Q1m k x.1
noncomputable def Q1m.ctx (k : Nat) : Ctx := ⟨Tryz.prog, gam [(158, (Q0t.sem k))]⟩
theorem Q1m.gok (k : Nat) : ∀ f, Qm Tryz.prog f ((Q1m.ctx k).Γ f) := (Q8 (Q0t.sem_ok k) QK)
def Q1m.ann (k : Nat) : Ann := .nil
theorem Q1m.body (k : Nat) : Q0Y (Q1m.ctx k) Tryz.f159 (Func.code Tryz.f159) (Q1m.ann k) Q1m.tin Q1m.tout (fun x K => Q1m.c k x.1 K) := by
 intro ρ x K; kernel_rfl
theorem Q1m.sem_ok (k : Nat) : Qm Tryz.prog 159 (Q1m.sem k) :=
 QD (C := Q1m.ctx k) (Q1m.gok k) Tryz.mix (c := Func.code Tryz.f159) (ann := Q1m.ann k) (tin := Q1m.tin) (tout := Q1m.tout) (fun x K => Q1m.c k x.1 K) Tryz.func159 (by kernel_rfl) (by kernel_rfl) Q1.nil (Q1m.body k)
abbrev Q0n.l0.σ : Type := Int × QdL × Int × Int × QdH × Unit
abbrev Q0n.l0.τ : Type := (Int × QdH × Unit)
def Q0n.l0.r (k : Nat) {ρ : Type} (x : Q0n.l0.σ) (kn : Q0n.l0.σ → Option ρ) (ke : Q0n.l0.τ → Option ρ) : Option ρ :=
 bif (decide (x.2.2.2.1 < x.2.2.1)) then (bif (decide (((0 : Int) ≤ x.2.2.2.1) ∧ (x.2.2.2.1 < (((List.length x.2.1) : Nat) : Int)))) then (let v11 : ByteArray := (List.getD x.2.1 (Int.toNat x.2.2.2.1) (((List.replicate 32 (0 : Int)), ((0 : Int), ())), (ByteArray.empty, ((0 : Int), ())))).2.1
 (Q1m k (((ByteArray.size v11) : Nat) : Int)).bind fun t12 => let v13 : Int := (IntKind.wrap IntKind.i64 ((40 : Int) + t12.1))
 let v14 : Int := (IntKind.wrap IntKind.i64 (x.1 + v13))
 let v15 : Int := (IntKind.wrap IntKind.i64 (x.2.2.2.1 + (1 : Int)))
 kn (v14, (x.2.1, (x.2.2.1, (v15, ((x.2.2.2.2.1.1, (x.2.2.2.2.1.2.1, (x.2.2.2.2.1.2.2.1, (x.2.2.2.2.1.2.2.2.1, ())))), ())))))) else (none)) else (ke (x.1, ((x.2.2.2.2.1.1, (x.2.2.2.2.1.2.1, (x.2.2.2.2.1.2.2.1, (x.2.2.2.2.1.2.2.2.1, ())))), ())))
def Q0n.l0 (k : Nat) : Nat → Q0n.l0.σ → Option Q0n.l0.τ := Q1c (Q0n.l0.r k)
def Q0n.l0.T : StT := ⟨us 1 ++ .ptr 0 [] :: us 1 ++ .dat (.int .i64) :: us 18 ++ .dat QdI :: .dat (.int .i64) :: .dat (.int .i64) :: us 27, [.dat QdC]⟩
def Q0n.l0.os : List Out := [⟨(.exit 0), [.mask [1, 3], .auto 0], ⟨us 1 ++ .ptr 0 [] :: us 1 ++ .dat (.int .i64) :: us 48, [.dat QdC]⟩⟩]
abbrev Q0n.l1.σ : Type := Int × QdP × Int × Int × Unit
abbrev Q0n.l1.τ : Type := (Int × Unit)
def Q0n.l1.r (k : Nat) {ρ : Type} (x : Q0n.l1.σ) (kn : Q0n.l1.σ → Option ρ) (ke : Q0n.l1.τ → Option ρ) : Option ρ :=
 bif (decide (x.2.2.2.1 < x.2.2.1)) then (bif (decide (((0 : Int) ≤ x.2.2.2.1) ∧ (x.2.2.2.1 < (((List.length x.2.1) : Nat) : Int)))) then (let v19 : ByteArray := (List.getD x.2.1 (Int.toNat x.2.2.2.1) ((0 : Int), (ByteArray.empty, ()))).2.1
 (Q1m k (((ByteArray.size v19) : Nat) : Int)).bind fun t20 => let v21 : Int := (IntKind.wrap IntKind.i64 ((8 : Int) + t20.1))
 let v22 : Int := (IntKind.wrap IntKind.i64 (x.1 + v21))
 let v23 : Int := (IntKind.wrap IntKind.i64 (x.2.2.2.1 + (1 : Int)))
 kn (v22, (x.2.1, (x.2.2.1, (v23, ()))))) else (none)) else (ke (x.1, ()))
def Q0n.l1 (k : Nat) : Nat → Q0n.l1.σ → Option Q0n.l1.τ := Q1c (Q0n.l1.r k)
def Q0n.l1.T : StT := ⟨us 3 ++ .dat (.int .i64) :: us 33 ++ .dat QdN :: .dat (.int .i64) :: .dat (.int .i64) :: us 12, []⟩
def Q0n.l1.os : List Out := [⟨(.exit 2), [.mask [3], .auto 0], ⟨us 3 ++ .dat (.int .i64) :: us 48, []⟩⟩]
def Q0n.c (k : Nat) {ρ : Type} (t : QdH) (K : Int × Unit → Option ρ) : Option ρ :=
 let v0 : QdL := t.2.1
 let v1 : Int := (((List.length v0) : Nat) : Int)
 (Q0t k (IntKind.wrap IntKind.u64 v1)).bind fun t2 => let v3 : Int := (IntKind.wrap IntKind.i64 ((4 : Int) + t2.1))
 let v4 : QdP := t.2.2.1
 let v5 : Int := (((List.length v4) : Nat) : Int)
 (Q0t k (IntKind.wrap IntKind.u64 v5)).bind fun t6 => let v7 : Int := (IntKind.wrap IntKind.i64 (v3 + t6.1))
 let v8 : Int := (IntKind.wrap IntKind.i64 (v7 + (4 : Int)))
 let v9 : QdL := t.2.1
 let v10 : Int := (((List.length v9) : Nat) : Int)
 (Q0n.l0 k k (v8, (v9, (v10, ((0 : Int), ((t.1, (t.2.1, (t.2.2.1, (t.2.2.2.1, ())))), ())))))).bind fun t16 => let v17 : QdP := t16.2.1.2.2.1
 let v18 : Int := (((List.length v17) : Nat) : Int)
 (Q0n.l1 k k (t16.1, (v17, (v18, ((0 : Int), ()))))).bind fun t24 => K (t24.1, ())
def Q0n (k : Nat) (t : QdH) : Option (Int × Unit) := Q0n.c k t some
def Q0n.tin : List Ty := [QdC]
def Q0n.tout : List Ty := [(.int .i64)]
def Q0n.sem (k : Nat) : Qr := QX Q0n.tin Q0n.tout fun x => Q0n k x.1
noncomputable def Q0n.ctx (k : Nat) : Ctx := ⟨Tryz.prog, gam [(158, (Q0t.sem k)), (159, (Q1m.sem k))]⟩
theorem Q0n.gok (k : Nat) : ∀ f, Qm Tryz.prog f ((Q0n.ctx k).Γ f) := (Q8 (Q0t.sem_ok k) (Q8 (Q1m.sem_ok k) QK))
theorem Q0n.l1.round (k : Nat) : Q1b (Q0n.ctx k) (Q0y (Func.code Tryz.f146) [1, 1, 1, 0, 1, 0, 0]) (.nil) Q0n.l1.T [.mask [3, 37, 38, 39], .auto 0] Q0n.l1.os (Q0n.l1.r k) := by
 intro ρ x kn ke; kernel_rfl
theorem Q0n.l1.ok (k : Nat) : StOK 0 Tryz.prog (.loop (Q0y (Func.code Tryz.f146) [1, 1, 1, 0, 1, 0, 0])) (QO Q0n.l1.T Q0n.l1.os (Q0n.l1 k k)) :=
 Q1e (C := Q0n.ctx k) (Q0n.gok k) Tryz.mix Q1.nil (by kernel_rfl) (by kernel_rfl) (by kernel_rfl) (Q0n.l1.round k) k
theorem Q0n.l0.round (k : Nat) : Q1b (Q0n.ctx k) (Q0y (Func.code Tryz.f146) [1, 1, 0, 1, 0, 0]) (.nil) Q0n.l0.T [.mask [1, 3, 22, 23, 24], .auto 0] Q0n.l0.os (Q0n.l0.r k) := by
 intro ρ x kn ke; kernel_rfl
theorem Q0n.l0.ok (k : Nat) : StOK 0 Tryz.prog (.loop (Q0y (Func.code Tryz.f146) [1, 1, 0, 1, 0, 0])) (QO Q0n.l0.T Q0n.l0.os (Q0n.l0 k k)) :=
 Q1e (C := Q0n.ctx k) (Q0n.gok k) Tryz.mix Q1.nil (by kernel_rfl) (by kernel_rfl) (by kernel_rfl) (Q0n.l0.round k) k
def Q0n.ann (k : Nat) : Ann := .node [] none (.nil) (.node [] none (.nil) (.node [] none (.node [] none (.nil) (.node [] none (.node [.mask [1, 3, 22, 23, 24], .auto 0] (some (QO Q0n.l0.T Q0n.l0.os (Q0n.l0 k k))) .nil .nil) (.nil))) (.node [] none (.node [] none (.nil) (.node [] none (.node [.mask [3, 37, 38, 39], .auto 0] (some (QO Q0n.l1.T Q0n.l1.os (Q0n.l1 k k))) .nil .nil) (.nil))) (.nil))))
theorem Q0n.body (k : Nat) : Q0Y (Q0n.ctx k) Tryz.f146 (Func.code Tryz.f146) (Q0n.ann k) Q0n.tin Q0n.tout (fun x K => Q0n.c k x.1 K) := by
 intro ρ x K; kernel_rfl
theorem Q0n.sem_ok (k : Nat) : Qm Tryz.prog 146 (Q0n.sem k) :=
 QD (C := Q0n.ctx k) (Q0n.gok k) Tryz.mix (c := Func.code Tryz.f146) (ann := Q0n.ann k) (tin := Q0n.tin) (tout := Q0n.tout) (fun x K => Q0n.c k x.1 K) Tryz.func146 (by kernel_rfl) (by kernel_rfl) (Q1.seq Q1.nil (Q1.seq Q1.nil (Q1.seq (Q1.seq Q1.nil (Q1.block (Q1.loop (by kernel_rfl) (Q0n.l0.ok k)))) (Q1.seq (Q1.seq Q1.nil (Q1.block (Q1.loop (by kernel_rfl) (Q0n.l1.ok k)))) Q1.nil)))) (Q0n.body k)
def Q17.c (k : Nat) {ρ : Type} (n : Int) (K : ByteArray × Unit → Option ρ) : Option ρ :=
 (Q0t k n).bind fun t0 => bif (t0.1 == (1 : Int)) then ((Q0r k n (1 : Int)).bind fun t1 => K (t1.1, ())) else (bif (t0.1 == (3 : Int)) then ((Q0r k (253 : Int) (1 : Int)).bind fun t2 => (Q0r k n (2 : Int)).bind fun t3 => bif (Nat.ble ((ByteArray.size t2.1) + (ByteArray.size t3.1)) 9223372036854775807) then (let v4 : ByteArray := (t2.1 ++ t3.1)
 K (v4, ())) else (none)) else (bif (t0.1 == (5 : Int)) then ((Q0r k (254 : Int) (1 : Int)).bind fun t5 => (Q0r k n (4 : Int)).bind fun t6 => bif (Nat.ble ((ByteArray.size t5.1) + (ByteArray.size t6.1)) 9223372036854775807) then (let v7 : ByteArray := (t5.1 ++ t6.1)
 K (v7, ())) else (none)) else ((Q0r k (255 : Int) (1 : Int)).bind fun t8 => (Q0r k n (8 : Int)).bind fun t9 => bif (Nat.ble ((ByteArray.size t8.1) + (ByteArray.size t9.1)) 9223372036854775807) then (let v10 : ByteArray := (t8.1 ++ t9.1)
 K (v10, ())) else (none))))
def Q17 (k : Nat) (n : Int) : Option (ByteArray × Unit) := Q17.c k n some
def Q17.tin : List Ty := [(.int .u64)]
def Q17.tout : List Ty := [.str]
def Q17.sem (k : Nat) : Qr := QX Q17.tin Q17.tout fun x => Q17 k x.1
noncomputable def Q17.ctx (k : Nat) : Ctx := ⟨Tryz.prog, gam [(158, (Q0t.sem k)), (82, (Q0r.sem k))]⟩
theorem Q17.gok (k : Nat) : ∀ f, Qm Tryz.prog f ((Q17.ctx k).Γ f) := (Q8 (Q0t.sem_ok k) (Q8 (Q0r.sem_ok k) QK))
def Q17.ann (k : Nat) : Ann := .nil
theorem Q17.body (k : Nat) : Q0Y (Q17.ctx k) Tryz.f145 (Func.code Tryz.f145) (Q17.ann k) Q17.tin Q17.tout (fun x K => Q17.c k x.1 K) := by
 intro ρ x K; kernel_rfl
theorem Q17.sem_ok (k : Nat) : Qm Tryz.prog 145 (Q17.sem k) :=
 QD (C := Q17.ctx k) (Q17.gok k) Tryz.mix (c := Func.code Tryz.f145) (ann := Q17.ann k) (tin := Q17.tin) (tout := Q17.tout) (fun x K => Q17.c k x.1 K) Tryz.func145 (by kernel_rfl) (by kernel_rfl) Q1.nil (Q17.body k)
abbrev QQ.τ : Type := QdM 
def QQ.c (k : Nat) {ρ : Type} (n : Int) (b0 : QdR) (b1 : (List Int)) (K : QQ.τ → Option ρ) : Option ρ :=
 (Q17 k n).bind fun t0 => (Qg k t0.1 (((), ((), ())), ()) b1).bind fun t1 => K ((((), ((), ())), ()), (t1.2.1, ()))
def QQ (k : Nat) (n : Int) (b0 : QdR) (b1 : (List Int)) : Option QQ.τ := QQ.c k n b0 b1 some
def QQ.T : Q1g := ⟨[.ptr 0 [], .dat (.int .u64)], [.pair (.pair (.sfp 0 [0] 146) (.pair (.vbs 1) (.dat .unit))) (.dat .unit), .vec (.int .u8)], 1⟩
def QQ.os : List Out := [⟨.ret, [.auto 1], ⟨[], [.pair (.pair (.sfp 0 [0] 146) (.pair (.vbs 1) (.dat .unit))) (.dat .unit), .vec (.int .u8)]⟩⟩]
def QQ.sem (k : Nat) : Qr := Q1j QQ.T QQ.os fun x => QQ k x.1 x.2.1 x.2.2.1
noncomputable def QQ.ctx (k : Nat) : Ctx := ⟨Tryz.prog, gam [(145, (Q17.sem k)), (34, (Qg.sem k))]⟩
theorem QQ.gok (k : Nat) : ∀ f, Qm Tryz.prog f ((QQ.ctx k).Γ f) := (Q8 (Q17.sem_ok k) (Q8 (Qg.sem_ok k) QK))
def QQ.ann (k : Nat) : Ann := .nil
theorem QQ.body (k : Nat) : Q1n (QQ.ctx k) Tryz.f132 (Func.code Tryz.f132) (QQ.ann k) QQ.T QQ.os (fun x K => QQ.c k x.1 x.2.1 x.2.2.1 K) := by
 intro ρ x K; kernel_rfl
theorem QQ.sem_ok (k : Nat) : Qm Tryz.prog 132 (QQ.sem k) :=
 Q0U (C := QQ.ctx k) (QQ.gok k) Tryz.mix (c := Func.code Tryz.f132) (ann := QQ.ann k) (T := QQ.T) (os := QQ.os) (fun x K => QQ.c k x.1 x.2.1 x.2.2.1 K) Tryz.func132 (by kernel_rfl) (by kernel_rfl) Q1.nil (QQ.body k) (by kernel_rfl) (by kernel_rfl) (by kernel_rfl)
abbrev Q00.τ : Type := QdM 
def Q00.c (k : Nat) {ρ : Type} (s : ByteArray) (b0 : QdR) (b1 : (List Int)) (K : Q00.τ → Option ρ) : Option ρ :=
 (QQ k (IntKind.wrap IntKind.u64 (((ByteArray.size s) : Nat) : Int)) (((), ((), ())), ()) b1).bind fun t0 => (Qg k s (((), ((), ())), ()) t0.2.1).bind fun t1 => K ((((), ((), ())), ()), (t1.2.1, ()))
def Q00 (k : Nat) (s : ByteArray) (b0 : QdR) (b1 : (List Int)) : Option Q00.τ := Q00.c k s b0 b1 some
def Q00.T : Q1g := ⟨[.ptr 0 [], .dat .str], [.pair (.pair (.sfp 0 [0] 146) (.pair (.vbs 1) (.dat .unit))) (.dat .unit), .vec (.int .u8)], 1⟩
def Q00.os : List Out := [⟨.ret, [.auto 1], ⟨[], [.pair (.pair (.sfp 0 [0] 146) (.pair (.vbs 1) (.dat .unit))) (.dat .unit), .vec (.int .u8)]⟩⟩]
def Q00.sem (k : Nat) : Qr := Q1j Q00.T Q00.os fun x => Q00 k x.1 x.2.1 x.2.2.1
noncomputable def Q00.ctx (k : Nat) : Ctx := ⟨Tryz.prog, gam [(132, (QQ.sem k)), (34, (Qg.sem k))]⟩
theorem Q00.gok (k : Nat) : ∀ f, Qm Tryz.prog f ((Q00.ctx k).Γ f) := (Q8 (QQ.sem_ok k) (Q8 (Qg.sem_ok k) QK))
def Q00.ann (k : Nat) : Ann := .nil
theorem Q00.body (k : Nat) : Q1n (Q00.ctx k) Tryz.f147 (Func.code Tryz.f147) (Q00.ann k) Q00.T Q00.os (fun x K => Q00.c k x.1 x.2.1 x.2.2.1 K) := by
 intro ρ x K; kernel_rfl
theorem Q00.sem_ok (k : Nat) : Qm Tryz.prog 147 (Q00.sem k) :=
 Q0U (C := Q00.ctx k) (Q00.gok k) Tryz.mix (c := Func.code Tryz.f147) (ann := Q00.ann k) (T := Q00.T) (os := Q00.os) (fun x K => Q00.c k x.1 x.2.1 x.2.2.1 K) Tryz.func147 (by kernel_rfl) (by kernel_rfl) Q1.nil (Q00.body k) (by kernel_rfl) (by kernel_rfl) (by kernel_rfl)
abbrev Q09.τ : Type := QdM 
def Q09.c (k : Nat) {ρ : Type} (n : Int) (b0 : QdR) (b1 : (List Int)) (K : Q09.τ → Option ρ) : Option ρ :=
 (Q0r k n (8 : Int)).bind fun t0 => (Qg k t0.1 (((), ((), ())), ()) b1).bind fun t1 => K ((((), ((), ())), ()), (t1.2.1, ()))
def Q09 (k : Nat) (n : Int) (b0 : QdR) (b1 : (List Int)) : Option Q09.τ := Q09.c k n b0 b1 some
def Q09.T : Q1g := ⟨[.ptr 0 [], .dat (.int .u64)], [.pair (.pair (.sfp 0 [0] 146) (.pair (.vbs 1) (.dat .unit))) (.dat .unit), .vec (.int .u8)], 1⟩
def Q09.os : List Out := [⟨.ret, [.auto 1], ⟨[], [.pair (.pair (.sfp 0 [0] 146) (.pair (.vbs 1) (.dat .unit))) (.dat .unit), .vec (.int .u8)]⟩⟩]
def Q09.sem (k : Nat) : Qr := Q1j Q09.T Q09.os fun x => Q09 k x.1 x.2.1 x.2.2.1
noncomputable def Q09.ctx (k : Nat) : Ctx := ⟨Tryz.prog, gam [(82, (Q0r.sem k)), (34, (Qg.sem k))]⟩
theorem Q09.gok (k : Nat) : ∀ f, Qm Tryz.prog f ((Q09.ctx k).Γ f) := (Q8 (Q0r.sem_ok k) (Q8 (Qg.sem_ok k) QK))
def Q09.ann (k : Nat) : Ann := .nil
theorem Q09.body (k : Nat) : Q1n (Q09.ctx k) Tryz.f104 (Func.code Tryz.f104) (Q09.ann k) Q09.T Q09.os (fun x K => Q09.c k x.1 x.2.1 x.2.2.1 K) := by
 intro ρ x K; kernel_rfl
theorem Q09.sem_ok (k : Nat) : Qm Tryz.prog 104 (Q09.sem k) :=
 Q0U (C := Q09.ctx k) (Q09.gok k) Tryz.mix (c := Func.code Tryz.f104) (ann := Q09.ann k) (T := Q09.T) (os := Q09.os) (fun x K => Q09.c k x.1 x.2.1 x.2.2.1 K) Tryz.func104 (by kernel_rfl) (by kernel_rfl) Q1.nil (Q09.body k) (by kernel_rfl) (by kernel_rfl) (by kernel_rfl)
abbrev Qd.l0.σ : Type := QdL × Int × Int × QdH × Unit
abbrev Qd.l0.τ : Type := QdT ⊕ QdF 
def Qd.l0.r (k : Nat) {ρ : Type} (x : Qd.l0.σ) (kn : Qd.l0.σ → Option ρ) (ke : Qd.l0.τ → Option ρ) : Option ρ :=
 bif (decide (x.2.2.1 < x.2.1)) then (bif (decide (((0 : Int) ≤ x.2.2.1) ∧ (x.2.2.1 < (((List.length x.1) : Nat) : Int)))) then (let v2 : ByteArray := (List.getD x.1 (Int.toNat x.2.2.1) (((List.replicate 32 (0 : Int)), ((0 : Int), ())), (ByteArray.empty, ((0 : Int), ())))).2.1
 bif (decide ((((ByteArray.size v2) : Nat) : Int) > (520 : Int))) then (ke (.inl ((⟨(List.toArray [])⟩ : ByteArray), ((100 : Int), ())))) else (let v3 : Int := (IntKind.wrap IntKind.i64 (x.2.2.1 + (1 : Int)))
 kn (x.1, (x.2.1, (v3, ((x.2.2.2.1.1, (x.2.2.2.1.2.1, (x.2.2.2.1.2.2.1, (x.2.2.2.1.2.2.2.1, ())))), ())))))) else (none)) else (ke (.inr ((x.2.2.2.1.1, (x.2.2.2.1.2.1, (x.2.2.2.1.2.2.1, (x.2.2.2.1.2.2.2.1, ())))), ())))
def Qd.l0 (k : Nat) : Nat → Qd.l0.σ → Option Qd.l0.τ := Q1c (Qd.l0.r k)
def Qd.l0.T : StT := ⟨us 1 ++ .ptr 0 [] :: us 12 ++ .dat QdI :: .dat (.int .i64) :: .dat (.int .i64) :: us 88, [.dat QdC]⟩
def Qd.l0.os : List Out := [⟨.ret, [.mask [2, 3], .auto 0], ⟨us 2 ++ .dat .str :: .dat (.int .i64) :: us 101, []⟩⟩, ⟨(.exit 0), [.mask [1], .auto 0], ⟨us 1 ++ .ptr 0 [] :: us 103, [.dat QdC]⟩⟩]
abbrev Qd.l1.σ : Type := QdP × Int × Int × QdH × Unit
abbrev Qd.l1.τ : Type := QdT ⊕ QdF 
def Qd.l1.r (k : Nat) {ρ : Type} (x : Qd.l1.σ) (kn : Qd.l1.σ → Option ρ) (ke : Qd.l1.τ → Option ρ) : Option ρ :=
 bif (decide (x.2.2.1 < x.2.1)) then (bif (decide (((0 : Int) ≤ x.2.2.1) ∧ (x.2.2.1 < (((List.length x.1) : Nat) : Int)))) then (let v9 : ByteArray := (List.getD x.1 (Int.toNat x.2.2.1) ((0 : Int), (ByteArray.empty, ()))).2.1
 bif (decide ((((ByteArray.size v9) : Nat) : Int) > (520 : Int))) then (ke (.inl ((⟨(List.toArray [])⟩ : ByteArray), ((100 : Int), ())))) else (let v10 : Int := (IntKind.wrap IntKind.i64 (x.2.2.1 + (1 : Int)))
 kn (x.1, (x.2.1, (v10, ((x.2.2.2.1.1, (x.2.2.2.1.2.1, (x.2.2.2.1.2.2.1, (x.2.2.2.1.2.2.2.1, ())))), ())))))) else (none)) else (ke (.inr ((x.2.2.2.1.1, (x.2.2.2.1.2.1, (x.2.2.2.1.2.2.1, (x.2.2.2.1.2.2.2.1, ())))), ())))
def Qd.l1 (k : Nat) : Nat → Qd.l1.σ → Option Qd.l1.τ := Q1c (Qd.l1.r k)
def Qd.l1.T : StT := ⟨us 1 ++ .ptr 0 [] :: us 24 ++ .dat QdN :: .dat (.int .i64) :: .dat (.int .i64) :: us 76, [.dat QdC]⟩
def Qd.l1.os : List Out := [⟨.ret, [.mask [2, 3], .auto 0], ⟨us 2 ++ .dat .str :: .dat (.int .i64) :: us 101, []⟩⟩, ⟨(.exit 2), [.mask [1], .auto 0], ⟨us 1 ++ .ptr 0 [] :: us 103, [.dat QdC]⟩⟩]
abbrev Qd.l2.σ : Type := QdL × Int × Int × QdH × QdR × (List Int) × Unit
abbrev Qd.l2.τ : Type := QdD 
def Qd.l2.r (k : Nat) {ρ : Type} (x : Qd.l2.σ) (kn : Qd.l2.σ → Option ρ) (ke : Qd.l2.τ → Option ρ) : Option ρ :=
 bif (decide (x.2.2.1 < x.2.1)) then (bif (decide (((0 : Int) ≤ x.2.2.1) ∧ (x.2.2.1 < (((List.length x.1) : Nat) : Int)))) then (let v23 : (List Int) := (List.getD x.1 (Int.toNat x.2.2.1) (((List.replicate 32 (0 : Int)), ((0 : Int), ())), (ByteArray.empty, ((0 : Int), ())))).1.1
 (QY k v23 (((), ((), ())), ()) x.2.2.2.2.2.1).bind fun t24 => let v25 : Int := (List.getD x.1 (Int.toNat x.2.2.1) (((List.replicate 32 (0 : Int)), ((0 : Int), ())), (ByteArray.empty, ((0 : Int), ())))).1.2.1
 (Qv k v25 (((), ((), ())), ()) t24.2.1).bind fun t26 => let v27 : ByteArray := (List.getD x.1 (Int.toNat x.2.2.1) (((List.replicate 32 (0 : Int)), ((0 : Int), ())), (ByteArray.empty, ((0 : Int), ())))).2.1
 (Q00 k v27 (((), ((), ())), ()) t26.2.1).bind fun t28 => let v29 : Int := (List.getD x.1 (Int.toNat x.2.2.1) (((List.replicate 32 (0 : Int)), ((0 : Int), ())), (ByteArray.empty, ((0 : Int), ())))).2.2.1
 (Qv k v29 (((), ((), ())), ()) t28.2.1).bind fun t30 => let v31 : Int := (IntKind.wrap IntKind.i64 (x.2.2.1 + (1 : Int)))
 kn (x.1, (x.2.1, (v31, ((x.2.2.2.1.1, (x.2.2.2.1.2.1, (x.2.2.2.1.2.2.1, (x.2.2.2.1.2.2.2.1, ())))), ((((), ((), ())), ()), (t30.2.1, ()))))))) else (none)) else (ke ((x.2.2.2.1.1, (x.2.2.2.1.2.1, (x.2.2.2.1.2.2.1, (x.2.2.2.1.2.2.2.1, ())))), ((((), ((), ())), ()), (x.2.2.2.2.2.1, ()))))
def Qd.l2 (k : Nat) : Nat → Qd.l2.σ → Option Qd.l2.τ := Q1c (Qd.l2.r k)
def Qd.l2.T : StT := ⟨us 1 ++ .ptr 0 [] :: us 6 ++ .ptr 1 [] :: us 43 ++ .dat QdI :: .dat (.int .i64) :: .dat (.int .i64) :: us 50, [.dat QdC, .pair (.pair (.sfp 1 [0] 146) (.pair (.vbs 2) (.dat .unit))) (.dat .unit), .vec (.int .u8)]⟩
def Qd.l2.os : List Out := [⟨(.exit 4), [.mask [1, 8], .auto 0], ⟨us 1 ++ .ptr 0 [] :: us 6 ++ .ptr 1 [] :: us 96, [.dat QdC, .pair (.pair (.sfp 1 [0] 146) (.pair (.vbs 2) (.dat .unit))) (.dat .unit), .vec (.int .u8)]⟩⟩]
abbrev Qd.l3.σ : Type := QdP × Int × Int × QdH × QdR × (List Int) × Unit
abbrev Qd.l3.τ : Type := QdD 
def Qd.l3.r (k : Nat) {ρ : Type} (x : Qd.l3.σ) (kn : Qd.l3.σ → Option ρ) (ke : Qd.l3.τ → Option ρ) : Option ρ :=
 bif (decide (x.2.2.1 < x.2.1)) then (bif (decide (((0 : Int) ≤ x.2.2.1) ∧ (x.2.2.1 < (((List.length x.1) : Nat) : Int)))) then (let v38 : Int := (List.getD x.1 (Int.toNat x.2.2.1) ((0 : Int), (ByteArray.empty, ()))).1
 (Q09 k v38 (((), ((), ())), ()) x.2.2.2.2.2.1).bind fun t39 => let v40 : ByteArray := (List.getD x.1 (Int.toNat x.2.2.1) ((0 : Int), (ByteArray.empty, ()))).2.1
 (Q00 k v40 (((), ((), ())), ()) t39.2.1).bind fun t41 => let v42 : Int := (IntKind.wrap IntKind.i64 (x.2.2.1 + (1 : Int)))
 kn (x.1, (x.2.1, (v42, ((x.2.2.2.1.1, (x.2.2.2.1.2.1, (x.2.2.2.1.2.2.1, (x.2.2.2.1.2.2.2.1, ())))), ((((), ((), ())), ()), (t41.2.1, ()))))))) else (none)) else (ke ((x.2.2.2.1.1, (x.2.2.2.1.2.1, (x.2.2.2.1.2.2.1, (x.2.2.2.1.2.2.2.1, ())))), ((((), ((), ())), ()), (x.2.2.2.2.2.1, ()))))
def Qd.l3 (k : Nat) : Nat → Qd.l3.σ → Option Qd.l3.τ := Q1c (Qd.l3.r k)
def Qd.l3.T : StT := ⟨us 1 ++ .ptr 0 [] :: us 6 ++ .ptr 1 [] :: us 75 ++ .dat QdN :: .dat (.int .i64) :: .dat (.int .i64) :: us 18, [.dat QdC, .pair (.pair (.sfp 1 [0] 146) (.pair (.vbs 2) (.dat .unit))) (.dat .unit), .vec (.int .u8)]⟩
def Qd.l3.os : List Out := [⟨(.exit 6), [.mask [1, 8], .auto 0], ⟨us 1 ++ .ptr 0 [] :: us 6 ++ .ptr 1 [] :: us 96, [.dat QdC, .pair (.pair (.sfp 1 [0] 146) (.pair (.vbs 2) (.dat .unit))) (.dat .unit), .vec (.int .u8)]⟩⟩]
def Qd.c (k : Nat) {ρ : Type} (t : QdH) (K : ByteArray × Int × Unit → Option ρ) : Option ρ :=
  let v0 : QdL := t.2.1
  let v1 : Int := (((List.length v0) : Nat) : Int)
  (Qd.l0 k k (v0, (v1, ((0 : Int), ((t.1, (t.2.1, (t.2.2.1, (t.2.2.2.1, ())))), ()))))).bind fun t4 => (match t4 with
 | .inl t5 => (K (t5.1, (t5.2.1, ())))
 | .inr (t6) => (let v7 : QdP := t6.1.2.2.1
  let v8 : Int := (((List.length v7) : Nat) : Int)
  (Qd.l1 k k (v7, (v8, ((0 : Int), ((t6.1.1, (t6.1.2.1, (t6.1.2.2.1, (t6.1.2.2.2.1, ())))), ()))))).bind fun t11 => (match t11 with
 | .inl t12 => (K (t12.1, (t12.2.1, ())))
 | .inr (t13) => ((Q0n k (t13.1.1, (t13.1.2.1, (t13.1.2.2.1, (t13.1.2.2.2.1, ()))))).bind fun t14 => bif (decide (t14.1 > (4096 : Int))) then (K ((⟨(List.toArray [])⟩ : ByteArray), ((101 : Int), ()))) else ((QR k ).bind fun t15 => let v16 : Int := t13.1.1
  (Qv k v16 (((), ((), ())), ()) t15.2.1).bind fun t17 => let v18 : QdL := t13.1.2.1
  let v19 : Int := (((List.length v18) : Nat) : Int)
  (QQ k (IntKind.wrap IntKind.u64 v19) (((), ((), ())), ()) t17.2.1).bind fun t20 => let v21 : QdL := t13.1.2.1
  let v22 : Int := (((List.length v21) : Nat) : Int)
  (Qd.l2 k k (v21, (v22, ((0 : Int), ((t13.1.1, (t13.1.2.1, (t13.1.2.2.1, (t13.1.2.2.2.1, ())))), ((((), ((), ())), ()), (t20.2.1, ()))))))).bind fun t32 => let v33 : QdP := t32.1.2.2.1
  let v34 : Int := (((List.length v33) : Nat) : Int)
  (QQ k (IntKind.wrap IntKind.u64 v34) (((), ((), ())), ()) t32.2.2.1).bind fun t35 => let v36 : QdP := t32.1.2.2.1
  let v37 : Int := (((List.length v36) : Nat) : Int)
  (Qd.l3 k k (v36, (v37, ((0 : Int), ((t32.1.1, (t32.1.2.1, (t32.1.2.2.1, (t32.1.2.2.2.1, ())))), ((((), ((), ())), ()), (t35.2.1, ()))))))).bind fun t43 => let v44 : Int := t43.1.2.2.2.1
  (Qv k v44 (((), ((), ())), ()) t43.2.2.1).bind fun t45 => (Qx k (((), ((), ())), ()) t45.2.1).bind fun t46 => K (t46.1, ((0 : Int), ())))))))
def Qd (k : Nat) (t : QdH) : Option QdT := Qd.c k t some
def Qd.tin : List Ty := [QdC]
def Qd.tout : List Ty := [.str, (.int .i64)]
def Qd.sem (k : Nat) : Qr := QX Qd.tin Qd.tout fun x => Qd k x.1
noncomputable def Qd.ctx (k : Nat) : Ctx := ⟨Tryz.prog, gam [(146, (Q0n.sem k)), (33, (QR.sem k)), (36, (Qv.sem k)), (132, (QQ.sem k)), (81, (QY.sem k)), (147, (Q00.sem k)), (104, (Q09.sem k)), (38, (Qx.sem k))]⟩
theorem Qd.gok (k : Nat) : ∀ f, Qm Tryz.prog f ((Qd.ctx k).Γ f) := (Q8 (Q0n.sem_ok k) (Q8 (QR.sem_ok k) (Q8 (Qv.sem_ok k) (Q8 (QQ.sem_ok k) (Q8 (QY.sem_ok k) (Q8 (Q00.sem_ok k) (Q8 (Q09.sem_ok k) (Q8 (Qx.sem_ok k) QK))))))))
theorem Qd.l3.round (k : Nat) : Q1b (Qd.ctx k) (Q0y (Func.code Tryz.f133) [1, 1, 1, 1, 1, 1, 1, 1, 1, 0, 1, 0, 0]) (.nil) Qd.l3.T [.mask [1, 8, 84, 85, 86], .auto 0] Qd.l3.os (Qd.l3.r k) := by
 intro ρ x kn ke; kernel_rfl
theorem Qd.l3.ok (k : Nat) : StOK 0 Tryz.prog (.loop (Q0y (Func.code Tryz.f133) [1, 1, 1, 1, 1, 1, 1, 1, 1, 0, 1, 0, 0])) (QO Qd.l3.T Qd.l3.os (Qd.l3 k k)) :=
 Q1e (C := Qd.ctx k) (Qd.gok k) Tryz.mix Q1.nil (by kernel_rfl) (by kernel_rfl) (by kernel_rfl) (Qd.l3.round k) k
theorem Qd.l2.round (k : Nat) : Q1b (Qd.ctx k) (Q0y (Func.code Tryz.f133) [1, 1, 1, 1, 1, 1, 1, 0, 1, 0, 0]) (.nil) Qd.l2.T [.mask [1, 8, 52, 53, 54], .auto 0] Qd.l2.os (Qd.l2.r k) := by
 intro ρ x kn ke; kernel_rfl
theorem Qd.l2.ok (k : Nat) : StOK 0 Tryz.prog (.loop (Q0y (Func.code Tryz.f133) [1, 1, 1, 1, 1, 1, 1, 0, 1, 0, 0])) (QO Qd.l2.T Qd.l2.os (Qd.l2 k k)) :=
 Q1e (C := Qd.ctx k) (Qd.gok k) Tryz.mix Q1.nil (by kernel_rfl) (by kernel_rfl) (by kernel_rfl) (Qd.l2.round k) k
theorem Qd.l1.round (k : Nat) : Q1b (Qd.ctx k) (Q0y (Func.code Tryz.f133) [1, 1, 0, 1, 0, 0]) (.nil) Qd.l1.T [.mask [1, 26, 27, 28], .auto 0] Qd.l1.os (Qd.l1.r k) := by
 intro ρ x kn ke; kernel_rfl
theorem Qd.l1.ok (k : Nat) : StOK 0 Tryz.prog (.loop (Q0y (Func.code Tryz.f133) [1, 1, 0, 1, 0, 0])) (QO Qd.l1.T Qd.l1.os (Qd.l1 k k)) :=
 Q1e (C := Qd.ctx k) (Qd.gok k) Tryz.mix Q1.nil (by kernel_rfl) (by kernel_rfl) (by kernel_rfl) (Qd.l1.round k) k
theorem Qd.l0.round (k : Nat) : Q1b (Qd.ctx k) (Q0y (Func.code Tryz.f133) [1, 0, 1, 0, 0]) (.nil) Qd.l0.T [.mask [1, 14, 15, 16], .auto 0] Qd.l0.os (Qd.l0.r k) := by
 intro ρ x kn ke; kernel_rfl
theorem Qd.l0.ok (k : Nat) : StOK 0 Tryz.prog (.loop (Q0y (Func.code Tryz.f133) [1, 0, 1, 0, 0])) (QO Qd.l0.T Qd.l0.os (Qd.l0 k k)) :=
 Q1e (C := Qd.ctx k) (Qd.gok k) Tryz.mix Q1.nil (by kernel_rfl) (by kernel_rfl) (by kernel_rfl) (Qd.l0.round k) k
def Qd.ann (k : Nat) : Ann := .node [] none (.nil) (.node [] none (.node [] none (.nil) (.node [] none (.node [.mask [1, 14, 15, 16], .auto 0] (some (QO Qd.l0.T Qd.l0.os (Qd.l0 k k))) .nil .nil) (.nil))) (.node [] none (.node [] none (.nil) (.node [] none (.node [.mask [1, 26, 27, 28], .auto 0] (some (QO Qd.l1.T Qd.l1.os (Qd.l1 k k))) .nil .nil) (.nil))) (.node [] none (.nil) (.node [] none (.nil) (.node [] none (.nil) (.node [] none (.nil) (.node [] none (.node [] none (.nil) (.node [] none (.node [.mask [1, 8, 52, 53, 54], .auto 0] (some (QO Qd.l2.T Qd.l2.os (Qd.l2 k k))) .nil .nil) (.nil))) (.node [] none (.nil) (.node [] none (.node [] none (.nil) (.node [] none (.node [.mask [1, 8, 84, 85, 86], .auto 0] (some (QO Qd.l3.T Qd.l3.os (Qd.l3 k k))) .nil .nil) (.nil))) (.nil))))))))))
theorem Qd.body (k : Nat) : Q0Y (Qd.ctx k) Tryz.f133 (Func.code Tryz.f133) (Qd.ann k) Qd.tin Qd.tout (fun x K => Qd.c k x.1 K) := by
 intro ρ x K; kernel_rfl
theorem Qd.sem_ok (k : Nat) : Qm Tryz.prog 133 (Qd.sem k) :=
 QD (C := Qd.ctx k) (Qd.gok k) Tryz.mix (c := Func.code Tryz.f133) (ann := Qd.ann k) (tin := Qd.tin) (tout := Qd.tout) (fun x K => Qd.c k x.1 K) Tryz.func133 (by kernel_rfl) (by kernel_rfl) (Q1.seq Q1.nil (Q1.seq (Q1.seq Q1.nil (Q1.block (Q1.loop (by kernel_rfl) (Qd.l0.ok k)))) (Q1.seq (Q1.seq Q1.nil (Q1.block (Q1.loop (by kernel_rfl) (Qd.l1.ok k)))) (Q1.seq Q1.nil (Q1.seq Q1.nil (Q1.seq Q1.nil (Q1.seq Q1.nil (Q1.seq (Q1.seq Q1.nil (Q1.block (Q1.loop (by kernel_rfl) (Qd.l2.ok k)))) (Q1.seq Q1.nil (Q1.seq (Q1.seq Q1.nil (Q1.block (Q1.loop (by kernel_rfl) (Qd.l3.ok k)))) Q1.nil)))))))))) (Qd.body k)
def Q1J.c (k : Nat) {ρ : Type} (t : QdH) (K : (List Int) × Int × Unit → Option ρ) : Option ρ :=
 (Qd k (t.1, (t.2.1, (t.2.2.1, (t.2.2.2.1, ()))))).bind fun t0 => let v1 : ByteArray := t0.1
 let v2 : Int := t0.2.1
 bif (v2 != (0 : Int)) then (let v3 : (List Int) := (List.replicate 32 (0 : Int))
 K (v3, (v2, ()))) else ((Q0Z k v1).bind fun t4 => K (t4.1, ((0 : Int), ())))
def Q1J (k : Nat) (t : QdH) : Option ((List Int) × Int × Unit) := Q1J.c k t some
def Q1J.tin : List Ty := [QdC]
def Q1J.tout : List Ty := [QdU, (.int .i64)]
def Q1J.sem (k : Nat) : Qr := QX Q1J.tin Q1J.tout fun x => Q1J k x.1
noncomputable def Q1J.ctx (k : Nat) : Ctx := ⟨Tryz.prog, gam [(133, (Qd.sem k)), (91, (Q0Z.sem k))]⟩
theorem Q1J.gok (k : Nat) : ∀ f, Qm Tryz.prog f ((Q1J.ctx k).Γ f) := (Q8 (Qd.sem_ok k) (Q8 (Q0Z.sem_ok k) QK))
def Q1J.ann (k : Nat) : Ann := .nil
theorem Q1J.body (k : Nat) : Q0Y (Q1J.ctx k) Tryz.f130 (Func.code Tryz.f130) (Q1J.ann k) Q1J.tin Q1J.tout (fun x K => Q1J.c k x.1 K) := by
 intro ρ x K; kernel_rfl
theorem Q1J.sem_ok (k : Nat) : Qm Tryz.prog 130 (Q1J.sem k) :=
 QD (C := Q1J.ctx k) (Q1J.gok k) Tryz.mix (c := Func.code Tryz.f130) (ann := Q1J.ann k) (tin := Q1J.tin) (tout := Q1J.tout) (fun x K => Q1J.c k x.1 K) Tryz.func130 (by kernel_rfl) (by kernel_rfl) Q1.nil (Q1J.body k)
def Qj.c (k : Nat) {ρ : Type} (s : (List (List Int))) (K : (List (List Int)) × Unit → Option ρ) : Option ρ :=
 bif (Nat.ble 1 (List.length s)) then (bif (Nat.ble ((0 + (List.length s)) * 32) 140737488355328) then (K (((List.replicate 0 (List.replicate 32 (0 : Int))) ++ s), ())) else (none)) else (none)
def Qj (k : Nat) (s : (List (List Int))) : Option ((List (List Int)) × Unit) := Qj.c k s some
def Qj.tin : List Ty := [QdS]
def Qj.tout : List Ty := [QdS]
def Qj.sem (k : Nat) : Qr := QX Qj.tin Qj.tout fun x => Qj k x.1
noncomputable def Qj.ctx (k : Nat) : Ctx := ⟨Tryz.prog, gam []⟩
theorem Qj.gok (k : Nat) : ∀ f, Qm Tryz.prog f ((Qj.ctx k).Γ f) := QK
def Qj.ann (k : Nat) : Ann := .nil
theorem Qj.body (k : Nat) : Q0Y (Qj.ctx k) Tryz.f156 (Func.code Tryz.f156) (Qj.ann k) Qj.tin Qj.tout (fun x K => Qj.c k x.1 K) := by
 intro ρ x K; kernel_rfl
theorem Qj.sem_ok (k : Nat) : Qm Tryz.prog 156 (Qj.sem k) :=
 QD (C := Qj.ctx k) (Qj.gok k) Tryz.mix (c := Func.code Tryz.f156) (ann := Qj.ann k) (tin := Qj.tin) (tout := Qj.tout) (fun x K => Qj.c k x.1 K) Tryz.func156 (by kernel_rfl) (by kernel_rfl) Q1.nil (Qj.body k)
def Q11.c (k : Nat) {ρ : Type} (a : (List Int)) (b : (List Int)) (K : (List Int) × Unit → Option ρ) : Option ρ :=
 let v0 : ByteArray := (bytesOf (List.take 32 (List.drop 0 a)))
 let v1 : ByteArray := (bytesOf (List.take 32 (List.drop 0 b)))
 bif (Nat.ble ((ByteArray.size v0) + (ByteArray.size v1)) 9223372036854775807) then (let v2 : ByteArray := (v0 ++ v1)
 (Q0Z k v2).bind fun t3 => K (t3.1, ())) else (none)
def Q11 (k : Nat) (a : (List Int)) (b : (List Int)) : Option QdW := Q11.c k a b some
def Q11.tin : List Ty := [QdU, QdU]
def Q11.tout : List Ty := [QdU]
def Q11.sem (k : Nat) : Qr := QX Q11.tin Q11.tout fun x => Q11 k x.1 x.2.1
noncomputable def Q11.ctx (k : Nat) : Ctx := ⟨Tryz.prog, gam [(91, (Q0Z.sem k))]⟩
theorem Q11.gok (k : Nat) : ∀ f, Qm Tryz.prog f ((Q11.ctx k).Γ f) := (Q8 (Q0Z.sem_ok k) QK)
def Q11.ann (k : Nat) : Ann := .nil
theorem Q11.body (k : Nat) : Q0Y (Q11.ctx k) Tryz.f166 (Func.code Tryz.f166) (Q11.ann k) Q11.tin Q11.tout (fun x K => Q11.c k x.1 x.2.1 K) := by
 intro ρ x K; kernel_rfl
theorem Q11.sem_ok (k : Nat) : Qm Tryz.prog 166 (Q11.sem k) :=
 QD (C := Q11.ctx k) (Q11.gok k) Tryz.mix (c := Func.code Tryz.f166) (ann := Q11.ann k) (tin := Q11.tin) (tout := Q11.tout) (fun x K => Q11.c k x.1 x.2.1 K) Tryz.func166 (by kernel_rfl) (by kernel_rfl) Q1.nil (Q11.body k)
abbrev QL.l0.σ : Type := (List (List Int)) × Int × (List (List Int)) × Unit
abbrev QL.l0.τ : Type := ((List (List Int)) × Unit)
def QL.l0.r (k : Nat) {ρ : Type} (x : QL.l0.σ) (kn : QL.l0.σ → Option ρ) (ke : QL.l0.τ → Option ρ) : Option ρ :=
 let v0 : Int := (((List.length x.1) : Nat) : Int)
 bif (decide (x.2.1 < v0)) then (bif (decide (((0 : Int) ≤ x.2.1) ∧ (x.2.1 < (((List.length x.1) : Nat) : Int)))) then (let v1 : (List Int) := (List.getD x.1 (Int.toNat x.2.1) (List.replicate 32 (0 : Int)))
 let v2 : Int := (IntKind.wrap IntKind.i64 (x.2.1 + (1 : Int)))
 let v3 : Int := (((List.length x.1) : Nat) : Int)
 let v4 : Int := (IntKind.wrap IntKind.i64 (v3 - (1 : Int)))
 let v5 : Int := (if (v4 < v2) then v4 else v2)
 bif (decide (((0 : Int) ≤ v5) ∧ (v5 < (((List.length x.1) : Nat) : Int)))) then (let v6 : (List Int) := (List.getD x.1 (Int.toNat v5) (List.replicate 32 (0 : Int)))
 (Q11 k v1 v6).bind fun t7 => bif (Nat.ble (((List.length x.2.2.1) + (List.length (List.set (List.replicate 1 (List.replicate 32 (0 : Int))) 0 t7.1))) * 32) 140737488355328) then (let v8 : Int := (IntKind.wrap IntKind.i64 (x.2.1 + (2 : Int)))
 kn (x.1, (v8, ((x.2.2.1 ++ (List.set (List.replicate 1 (List.replicate 32 (0 : Int))) 0 t7.1)), ())))) else (none)) else (none)) else (none)) else (ke (x.2.2.1, ()))
def QL.l0 (k : Nat) : Nat → QL.l0.σ → Option QL.l0.τ := Q1c (QL.l0.r k)
def QL.l0.T : StT := ⟨.dat QdS :: us 2 ++ .vsl 0 :: .dat (.int .i64) :: us 24, [.vec QdU]⟩
def QL.l0.os : List Out := [⟨(.exit 0), [.mask [3], .auto 0], ⟨us 3 ++ .vsl 0 :: us 25, [.vec QdU]⟩⟩]
def QL.c (k : Nat) {ρ : Type} (l : (List (List Int))) (K : (List (List Int)) × Unit → Option ρ) : Option ρ :=
 (QL.l0 k k (l, ((0 : Int), ([], ())))).bind fun t9 => K (t9.1, ())
def QL (k : Nat) (l : (List (List Int))) : Option ((List (List Int)) × Unit) := QL.c k l some
def QL.tin : List Ty := [QdS]
def QL.tout : List Ty := [QdS]
def QL.sem (k : Nat) : Qr := QX QL.tin QL.tout fun x => QL k x.1
noncomputable def QL.ctx (k : Nat) : Ctx := ⟨Tryz.prog, gam [(166, (Q11.sem k))]⟩
theorem QL.gok (k : Nat) : ∀ f, Qm Tryz.prog f ((QL.ctx k).Γ f) := (Q8 (Q11.sem_ok k) QK)
theorem QL.l0.round (k : Nat) : Q1b (QL.ctx k) (Q0y (Func.code Tryz.f157) [1, 1, 0, 1, 0, 0]) (.nil) QL.l0.T [.mask [0, 3, 4], .auto 0] QL.l0.os (QL.l0.r k) := by
 intro ρ x kn ke; kernel_rfl
theorem QL.l0.ok (k : Nat) : StOK 0 Tryz.prog (.loop (Q0y (Func.code Tryz.f157) [1, 1, 0, 1, 0, 0])) (QO QL.l0.T QL.l0.os (QL.l0 k k)) :=
 Q1e (C := QL.ctx k) (QL.gok k) Tryz.mix Q1.nil (by kernel_rfl) (by kernel_rfl) (by kernel_rfl) (QL.l0.round k) k
def QL.ann (k : Nat) : Ann := .node [] none (.nil) (.node [] none (.nil) (.node [] none (.node [] none (.nil) (.node [] none (.node [.own (.slot 3) QdU] (some (QO QL.l0.T QL.l0.os (QL.l0 k k))) .nil .nil) (.nil))) (.nil)))
theorem QL.body (k : Nat) : Q0Y (QL.ctx k) Tryz.f157 (Func.code Tryz.f157) (QL.ann k) QL.tin QL.tout (fun x K => QL.c k x.1 K) := by
 intro ρ x K; kernel_rfl
theorem QL.sem_ok (k : Nat) : Qm Tryz.prog 157 (QL.sem k) :=
 QD (C := QL.ctx k) (QL.gok k) Tryz.mix (c := Func.code Tryz.f157) (ann := QL.ann k) (tin := QL.tin) (tout := QL.tout) (fun x K => QL.c k x.1 K) Tryz.func157 (by kernel_rfl) (by kernel_rfl) (Q1.seq Q1.nil (Q1.seq Q1.nil (Q1.seq (Q1.seq Q1.nil (Q1.block (Q1.loop (by kernel_rfl) (QL.l0.ok k)))) Q1.nil))) (QL.body k)
abbrev QA.l0.σ : Type := (List (List Int)) × (List (List (List Int))) × Unit
abbrev QA.l0.τ : Type := ((List (List (List Int))) × Unit)
def QA.l0.r (k : Nat) {ρ : Type} (x : QA.l0.σ) (kn : QA.l0.σ → Option ρ) (ke : QA.l0.τ → Option ρ) : Option ρ :=
 let v2 : Int := (((List.length x.1) : Nat) : Int)
 bif (decide (v2 > (1 : Int))) then ((QL k x.1).bind fun t3 => bif (Nat.ble (((List.length x.2.1) + (List.length (List.set (List.replicate 1 []) 0 t3.1))) * 24) 140737488355328) then (kn (t3.1, ((x.2.1 ++ (List.set (List.replicate 1 []) 0 t3.1)), ()))) else (none)) else (ke (x.2.1, ()))
def QA.l0 (k : Nat) : Nat → QA.l0.σ → Option QA.l0.τ := Q1c (QA.l0.r k)
def QA.l0.T : StT := ⟨.dat QdS :: us 2 ++ .vsl 0 :: us 16, [.vec QdS]⟩
def QA.l0.os : List Out := [⟨(.exit 0), [.mask [3], .auto 0], ⟨us 3 ++ .vsl 0 :: us 16, [.vec QdS]⟩⟩]
def QA.c (k : Nat) {ρ : Type} (l : (List (List Int))) (K : (List (List (List Int))) × Unit → Option ρ) : Option ρ :=
 let v0 : Int := (((List.length l) : Nat) : Int)
 bif (v0 == (0 : Int)) then (K ([], ())) else ((Qj k l).bind fun t1 => (QA.l0 k k (l, ((List.set (List.replicate 1 []) 0 t1.1), ()))).bind fun t4 => K (t4.1, ()))
def QA (k : Nat) (l : (List (List Int))) : Option ((List (List (List Int))) × Unit) := QA.c k l some
def QA.tin : List Ty := [QdS]
def QA.tout : List Ty := [QdQ]
def QA.sem (k : Nat) : Qr := QX QA.tin QA.tout fun x => QA k x.1
noncomputable def QA.ctx (k : Nat) : Ctx := ⟨Tryz.prog, gam [(156, (Qj.sem k)), (157, (QL.sem k))]⟩
theorem QA.gok (k : Nat) : ∀ f, Qm Tryz.prog f ((QA.ctx k).Γ f) := (Q8 (Qj.sem_ok k) (Q8 (QL.sem_ok k) QK))
theorem QA.l0.round (k : Nat) : Q1b (QA.ctx k) (Q0y (Func.code Tryz.f144) [1, 1, 1, 0, 0, 0]) (.nil) QA.l0.T [.mask [0, 3], .auto 0] QA.l0.os (QA.l0.r k) := by
 intro ρ x kn ke; kernel_rfl
theorem QA.l0.ok (k : Nat) : StOK 0 Tryz.prog (.loop (Q0y (Func.code Tryz.f144) [1, 1, 1, 0, 0, 0])) (QO QA.l0.T QA.l0.os (QA.l0 k k)) :=
 Q1e (C := QA.ctx k) (QA.gok k) Tryz.mix Q1.nil (by kernel_rfl) (by kernel_rfl) (by kernel_rfl) (QA.l0.round k) k
def QA.ann (k : Nat) : Ann := .node [] none (.nil) (.node [] none (.nil) (.node [] none (.nil) (.node [] none (.node [] none (.node [.mask [0, 3], .auto 0] (some (QO QA.l0.T QA.l0.os (QA.l0 k k))) .nil .nil) (.nil)) (.nil))))
theorem QA.body (k : Nat) : Q0Y (QA.ctx k) Tryz.f144 (Func.code Tryz.f144) (QA.ann k) QA.tin QA.tout (fun x K => QA.c k x.1 K) := by
 intro ρ x K; kernel_rfl
theorem QA.sem_ok (k : Nat) : Qm Tryz.prog 144 (QA.sem k) :=
 QD (C := QA.ctx k) (QA.gok k) Tryz.mix (c := Func.code Tryz.f144) (ann := QA.ann k) (tin := QA.tin) (tout := QA.tout) (fun x K => QA.c k x.1 K) Tryz.func144 (by kernel_rfl) (by kernel_rfl) (Q1.seq Q1.nil (Q1.seq Q1.nil (Q1.seq Q1.nil (Q1.seq (Q1.block (Q1.loop (by kernel_rfl) (QA.l0.ok k))) Q1.nil)))) (QA.body k)
abbrev Qp.l1.σ : Type := Bool × (List (List (List Int))) × (List (List Int)) × Int × (List (List (List Int))) × Int × Int × (List Int) × Unit
abbrev Qp.l1.τ : Type := (Bool × (List (List (List Int))) × (List (List (List Int))) × Int × Int × (List Int) × Unit)
def Qp.l1.r (k : Nat) {ρ : Type} (x : Qp.l1.σ) (kn : Qp.l1.σ → Option ρ) (ke : Qp.l1.τ → Option ρ) : Option ρ :=
 let v3 : Int := (IntKind.wrap IntKind.i64 (x.2.2.2.1 + (1 : Int)))
 let v4 : Int := (((List.length x.2.2.1) : Nat) : Int)
 bif (decide (v3 < v4)) then (bif x.1 then (let v5 : Int := (IntKind.wrap IntKind.i64 (x.2.2.2.1 + (2 : Int)))
 kn (true, (x.2.1, (x.2.2.1, (v5, (x.2.2.2.2.1, (x.2.2.2.2.2.1, (x.2.2.2.2.2.2.1, (x.2.2.2.2.2.2.2.1, ()))))))))) else (bif (decide (((0 : Int) ≤ x.2.2.2.1) ∧ (x.2.2.2.1 < (((List.length x.2.2.1) : Nat) : Int)))) then (let v6 : (List Int) := (List.getD x.2.2.1 (Int.toNat x.2.2.2.1) (List.replicate 32 (0 : Int)))
 let v7 : Int := (IntKind.wrap IntKind.i64 (x.2.2.2.1 + (1 : Int)))
 bif (decide (((0 : Int) ≤ v7) ∧ (v7 < (((List.length x.2.2.1) : Nat) : Int)))) then (let v8 : (List Int) := (List.getD x.2.2.1 (Int.toNat v7) (List.replicate 32 (0 : Int)))
 let v9 : Int := (IntKind.wrap IntKind.i64 (x.2.2.2.1 + (2 : Int)))
 kn ((decide (v6 = v8)), (x.2.1, (x.2.2.1, (v9, (x.2.2.2.2.1, (x.2.2.2.2.2.1, (x.2.2.2.2.2.2.1, (x.2.2.2.2.2.2.2.1, ()))))))))) else (none)) else (none))) else (ke (x.1, (x.2.1, (x.2.2.2.2.1, (x.2.2.2.2.2.1, (x.2.2.2.2.2.2.1, (x.2.2.2.2.2.2.2.1, ())))))))
def Qp.l1 (k : Nat) : Nat → Qp.l1.σ → Option Qp.l1.τ := Q1c (Qp.l1.r k)
def Qp.l1.T : StT := ⟨us 2 ++ .ptr 0 [] :: us 1 ++ .dat .bool :: .dat QdQ :: us 1 ++ .dat QdS :: .dat (.int .i64) :: us 2 ++ .dat QdQ :: .dat (.int .i64) :: .dat (.int .i64) :: us 37, [.dat QdU]⟩
def Qp.l1.os : List Out := [⟨(.exit 2), [.mask [2, 4, 5, 11, 12, 13], .auto 0], ⟨us 2 ++ .ptr 0 [] :: us 1 ++ .dat .bool :: .dat QdQ :: us 5 ++ .dat QdQ :: .dat (.int .i64) :: .dat (.int .i64) :: us 37, [.dat QdU]⟩⟩]
abbrev Qp.l0.σ : Type := Bool × (List (List (List Int))) × (List (List (List Int))) × Int × Int × (List Int) × Unit
abbrev Qp.l0.τ : Type := (Bool × (List (List (List Int))) × (List Int) × Unit)
def Qp.l0.r (k : Nat) {ρ : Type} (x : Qp.l0.σ) (kn : Qp.l0.σ → Option ρ) (ke : Qp.l0.τ → Option ρ) : Option ρ :=
 bif (decide (x.2.2.2.2.1 < x.2.2.2.1)) then (bif (decide (((0 : Int) ≤ x.2.2.2.2.1) ∧ (x.2.2.2.2.1 < (((List.length x.2.2.1) : Nat) : Int)))) then (let v2 : (List (List Int)) := (List.getD x.2.2.1 (Int.toNat x.2.2.2.2.1) [])
 (Qp.l1 k k (x.1, (x.2.1, (v2, ((0 : Int), (x.2.2.1, (x.2.2.2.1, (x.2.2.2.2.1, (x.2.2.2.2.2.1, ()))))))))).bind fun t10 => let v11 : Int := (IntKind.wrap IntKind.i64 (t10.2.2.2.2.1 + (1 : Int)))
 kn (t10.1, (t10.2.1, (t10.2.2.1, (t10.2.2.2.1, (v11, (t10.2.2.2.2.2.1, ()))))))) else (none)) else (ke (x.1, (x.2.1, (x.2.2.2.2.2.1, ()))))
def Qp.l0 (k : Nat) : Nat → Qp.l0.σ → Option Qp.l0.τ := Q1c (Qp.l0.r k)
def Qp.l0.T : StT := ⟨us 2 ++ .ptr 0 [] :: us 1 ++ .dat .bool :: .dat QdQ :: us 5 ++ .dat QdQ :: .dat (.int .i64) :: .dat (.int .i64) :: us 37, [.dat QdU]⟩
def Qp.l0.os : List Out := [⟨(.exit 0), [.mask [2, 4, 5], .auto 0], ⟨us 2 ++ .ptr 0 [] :: us 1 ++ .dat .bool :: .dat QdQ :: us 45, [.dat QdU]⟩⟩]
def Qp.c (k : Nat) {ρ : Type} (l : (List (List Int))) (K : (List Int) × Bool × Unit → Option ρ) : Option ρ :=
 (QA k l).bind fun t0 => let v1 : Int := (((List.length t0.1) : Nat) : Int)
 (Qp.l0 k k (false, (t0.1, (t0.1, (v1, ((0 : Int), ((List.replicate 32 (0 : Int)), ()))))))).bind fun t12 => let v13 : Int := (((List.length t12.2.1) : Nat) : Int)
 bif (v13 == (0 : Int)) then (let v14 : (List Int) := (List.replicate 32 (0 : Int))
 K (v14, (false, ()))) else (let v15 : Int := (((List.length t12.2.1) : Nat) : Int)
 let v16 : Int := (IntKind.wrap IntKind.i64 (v15 - (1 : Int)))
 bif (decide (((0 : Int) ≤ v16) ∧ (v16 < (((List.length t12.2.1) : Nat) : Int)))) then (let v17 : (List (List Int)) := (List.getD t12.2.1 (Int.toNat v16) [])
 bif (decide (((0 : Int) ≤ (0 : Int)) ∧ ((0 : Int) < (((List.length v17) : Nat) : Int)))) then (let v18 : (List Int) := (List.getD v17 0 (List.replicate 32 (0 : Int)))
 K (v18, (t12.1, ()))) else (none)) else (none))
def Qp (k : Nat) (l : (List (List Int))) : Option ((List Int) × Bool × Unit) := Qp.c k l some
def Qp.tin : List Ty := [QdS]
def Qp.tout : List Ty := [QdU, .bool]
def Qp.sem (k : Nat) : Qr := QX Qp.tin Qp.tout fun x => Qp k x.1
noncomputable def Qp.ctx (k : Nat) : Ctx := ⟨Tryz.prog, gam [(144, (QA.sem k))]⟩
theorem Qp.gok (k : Nat) : ∀ f, Qm Tryz.prog f ((Qp.ctx k).Γ f) := (Q8 (QA.sem_ok k) QK)
theorem Qp.l1.round (k : Nat) : Q1b (Qp.ctx k) (Q0y (Func.code Tryz.f131) [1, 1, 1, 0, 1, 0, 0, 1, 1, 0, 0, 1, 1, 0, 0]) (.nil) Qp.l1.T [.mask [2, 4, 5, 7, 8, 11, 12, 13], .auto 0] Qp.l1.os (Qp.l1.r k) := by
 intro ρ x kn ke; kernel_rfl
theorem Qp.l1.ok (k : Nat) : StOK 0 Tryz.prog (.loop (Q0y (Func.code Tryz.f131) [1, 1, 1, 0, 1, 0, 0, 1, 1, 0, 0, 1, 1, 0, 0])) (QO Qp.l1.T Qp.l1.os (Qp.l1 k k)) :=
 Q1e (C := Qp.ctx k) (Qp.gok k) Tryz.mix Q1.nil (by kernel_rfl) (by kernel_rfl) (by kernel_rfl) (Qp.l1.round k) k
theorem Qp.l0.round (k : Nat) : Q1b (Qp.ctx k) (Q0y (Func.code Tryz.f131) [1, 1, 1, 0, 1, 0, 0]) (.node [] none (.nil) (.node [] none (.nil) (.node [] none (.node [] none (.node [] none (.nil) (.node [] none (.nil) (.node [] none (.node [.mask [2, 4, 5, 7, 8, 11, 12, 13], .auto 0] (some (QO Qp.l1.T Qp.l1.os (Qp.l1 k k))) .nil .nil) (.nil)))) (.nil)) (.nil)))) Qp.l0.T [.mask [2, 4, 5, 11, 12, 13], .auto 0] Qp.l0.os (Qp.l0.r k) := by
 intro ρ x kn ke; kernel_rfl
theorem Qp.l0.ok (k : Nat) : StOK 0 Tryz.prog (.loop (Q0y (Func.code Tryz.f131) [1, 1, 1, 0, 1, 0, 0])) (QO Qp.l0.T Qp.l0.os (Qp.l0 k k)) :=
 Q1e (C := Qp.ctx k) (Qp.gok k) Tryz.mix (Q1.seq Q1.nil (Q1.seq Q1.nil (Q1.seq (Q1.block (Q1.seq Q1.nil (Q1.seq Q1.nil (Q1.block (Q1.loop (by kernel_rfl) (Qp.l1.ok k)))))) Q1.nil))) (by kernel_rfl) (by kernel_rfl) (by kernel_rfl) (Qp.l0.round k) k
def Qp.ann (k : Nat) : Ann := .node [] none (.nil) (.node [] none (.nil) (.node [] none (.nil) (.node [] none (.node [] none (.nil) (.node [] none (.node [.mask [2, 4, 5, 11, 12, 13], .auto 0] (some (QO Qp.l0.T Qp.l0.os (Qp.l0 k k))) .nil .nil) (.nil))) (.nil))))
theorem Qp.body (k : Nat) : Q0Y (Qp.ctx k) Tryz.f131 (Func.code Tryz.f131) (Qp.ann k) Qp.tin Qp.tout (fun x K => Qp.c k x.1 K) := by
 intro ρ x K; kernel_rfl
theorem Qp.sem_ok (k : Nat) : Qm Tryz.prog 131 (Qp.sem k) :=
 QD (C := Qp.ctx k) (Qp.gok k) Tryz.mix (c := Func.code Tryz.f131) (ann := Qp.ann k) (tin := Qp.tin) (tout := Qp.tout) (fun x K => Qp.c k x.1 K) Tryz.func131 (by kernel_rfl) (by kernel_rfl) (Q1.seq Q1.nil (Q1.seq Q1.nil (Q1.seq Q1.nil (Q1.seq (Q1.seq Q1.nil (Q1.block (Q1.loop (by kernel_rfl) (Qp.l0.ok k)))) Q1.nil)))) (Qp.body k)
abbrev Q0a.l0.σ : Type := QdG × Int × Int × (List Int) × (List (List Int)) × Unit
abbrev Q0a.l0.τ : Type := ((List Int) × (List (List Int)) × Unit)
def Q0a.l0.r (k : Nat) {ρ : Type} (x : Q0a.l0.σ) (kn : Q0a.l0.σ → Option ρ) (ke : Q0a.l0.τ → Option ρ) : Option ρ :=
 bif (decide (x.2.2.1 < x.2.1)) then (bif (decide (((0 : Int) ≤ x.2.2.1) ∧ (x.2.2.1 < (((List.length x.1) : Nat) : Int)))) then ((Q1J k ((List.getD x.1 (Int.toNat x.2.2.1) ((0 : Int), ([], ([], ((0 : Int), ()))))).1, ((List.getD x.1 (Int.toNat x.2.2.1) ((0 : Int), ([], ([], ((0 : Int), ()))))).2.1, ((List.getD x.1 (Int.toNat x.2.2.1) ((0 : Int), ([], ([], ((0 : Int), ()))))).2.2.1, ((List.getD x.1 (Int.toNat x.2.2.1) ((0 : Int), ([], ([], ((0 : Int), ()))))).2.2.2.1, ()))))).bind fun t2 => let v3 : (List Int) := t2.1
 let v4 : Int := t2.2.1
 bif (decide (((0 : Int) ≤ x.2.2.1) ∧ (x.2.2.1 < (((List.length x.2.2.2.2.1) : Nat) : Int)))) then (let v5 : Int := (IntKind.wrap IntKind.i64 (x.2.2.1 + (1 : Int)))
 kn (x.1, (x.2.1, (v5, (x.2.2.2.1, ((List.set x.2.2.2.2.1 (Int.toNat x.2.2.1) v3), ())))))) else (none)) else (none)) else (ke (x.2.2.2.1, (x.2.2.2.2.1, ())))
def Q0a.l0 (k : Nat) : Nat → Q0a.l0.σ → Option Q0a.l0.τ := Q1c (Q0a.l0.r k)
def Q0a.l0.T : StT := ⟨us 2 ++ .ptr 0 [] :: us 1 ++ .vsl 1 :: us 5 ++ .dat QdA :: .dat (.int .i64) :: .dat (.int .i64) :: us 17, [.dat QdU, .vec QdU]⟩
def Q0a.l0.os : List Out := [⟨(.exit 0), [.mask [2, 4], .auto 0], ⟨us 2 ++ .ptr 0 [] :: us 1 ++ .vsl 1 :: us 25, [.dat QdU, .vec QdU]⟩⟩]
def Q0a.c (k : Nat) {ρ : Type} (txs : QdG) (K : (List Int) × Bool × Unit → Option ρ) : Option ρ :=
 let v0 : Int := (((List.length txs) : Nat) : Int)
 bif ((decide (((0 : Int) ≤ v0) ∧ (v0 ≤ v0))) && (Nat.ble ((Int.toNat v0) * 32) 140737488355328)) then (let v1 : Int := (((List.length txs) : Nat) : Int)
 (Q0a.l0 k k (txs, (v1, ((0 : Int), ((List.replicate 32 (0 : Int)), ((List.replicate (Int.toNat v0) (List.replicate 32 (0 : Int))), ())))))).bind fun t6 => (Qp k t6.2.1).bind fun t7 => let v8 : (List Int) := t7.1
 K (v8, (t7.2.1, ()))) else (none)
def Q0a (k : Nat) (txs : QdG) : Option ((List Int) × Bool × Unit) := Q0a.c k txs some
def Q0a.tin : List Ty := [QdA]
def Q0a.tout : List Ty := [QdU, .bool]
def Q0a.sem (k : Nat) : Qr := QX Q0a.tin Q0a.tout fun x => Q0a k x.1
noncomputable def Q0a.ctx (k : Nat) : Ctx := ⟨Tryz.prog, gam [(130, (Q1J.sem k)), (131, (Qp.sem k))]⟩
theorem Q0a.gok (k : Nat) : ∀ f, Qm Tryz.prog f ((Q0a.ctx k).Γ f) := (Q8 (Q1J.sem_ok k) (Q8 (Qp.sem_ok k) QK))
theorem Q0a.l0.round (k : Nat) : Q1b (Q0a.ctx k) (Q0y (Func.code Tryz.f114) [1, 1, 0, 1, 0, 0]) (.nil) Q0a.l0.T [.mask [2, 4, 10, 11, 12], .auto 0] Q0a.l0.os (Q0a.l0.r k) := by
 intro ρ x kn ke; kernel_rfl
theorem Q0a.l0.ok (k : Nat) : StOK 0 Tryz.prog (.loop (Q0y (Func.code Tryz.f114) [1, 1, 0, 1, 0, 0])) (QO Q0a.l0.T Q0a.l0.os (Q0a.l0 k k)) :=
 Q1e (C := Q0a.ctx k) (Q0a.gok k) Tryz.mix Q1.nil (by kernel_rfl) (by kernel_rfl) (by kernel_rfl) (Q0a.l0.round k) k
def Q0a.ann (k : Nat) : Ann := .node [] none (.nil) (.node [] none (.nil) (.node [] none (.node [] none (.nil) (.node [] none (.node [.mask [2, 4, 10, 11, 12], .auto 0] (some (QO Q0a.l0.T Q0a.l0.os (Q0a.l0 k k))) .nil .nil) (.nil))) (.nil)))
theorem Q0a.body (k : Nat) : Q0Y (Q0a.ctx k) Tryz.f114 (Func.code Tryz.f114) (Q0a.ann k) Q0a.tin Q0a.tout (fun x K => Q0a.c k x.1 K) := by
 intro ρ x K; kernel_rfl
theorem Q0a.sem_ok (k : Nat) : Qm Tryz.prog 114 (Q0a.sem k) :=
 QD (C := Q0a.ctx k) (Q0a.gok k) Tryz.mix (c := Func.code Tryz.f114) (ann := Q0a.ann k) (tin := Q0a.tin) (tout := Q0a.tout) (fun x K => Q0a.c k x.1 K) Tryz.func114 (by kernel_rfl) (by kernel_rfl) (Q1.seq Q1.nil (Q1.seq Q1.nil (Q1.seq (Q1.seq Q1.nil (Q1.block (Q1.loop (by kernel_rfl) (Q0a.l0.ok k)))) Q1.nil))) (Q0a.body k)
def Q0P.c (k : Nat) {ρ : Type} (t : QdH) (K : QdH × Unit → Option ρ) : Option ρ :=
 let v0 : QdL := t.2.1
 bif (Nat.ble ((List.length v0) * 64) 140737488355328) then (let v1 : QdP := t.2.2.1
 bif (Nat.ble ((List.length v1) * 24) 140737488355328) then (K ((t.1, (v0, (v1, (t.2.2.2.1, ())))), ())) else (none)) else (none)
def Q0P (k : Nat) (t : QdH) : Option QdF := Q0P.c k t some
def Q0P.tin : List Ty := [QdC]
def Q0P.tout : List Ty := [QdC]
def Q0P.sem (k : Nat) : Qr := QX Q0P.tin Q0P.tout fun x => Q0P k x.1
noncomputable def Q0P.ctx (k : Nat) : Ctx := ⟨Tryz.prog, gam []⟩
theorem Q0P.gok (k : Nat) : ∀ f, Qm Tryz.prog f ((Q0P.ctx k).Γ f) := QK
def Q0P.ann (k : Nat) : Ann := .nil
theorem Q0P.body (k : Nat) : Q0Y (Q0P.ctx k) Tryz.f115 (Func.code Tryz.f115) (Q0P.ann k) Q0P.tin Q0P.tout (fun x K => Q0P.c k x.1 K) := by
 intro ρ x K; kernel_rfl
theorem Q0P.sem_ok (k : Nat) : Qm Tryz.prog 115 (Q0P.sem k) :=
 QD (C := Q0P.ctx k) (Q0P.gok k) Tryz.mix (c := Func.code Tryz.f115) (ann := Q0P.ann k) (tin := Q0P.tin) (tout := Q0P.tout) (fun x K => Q0P.c k x.1 K) Tryz.func115 (by kernel_rfl) (by kernel_rfl) Q1.nil (Q0P.body k)
abbrev QP.τ : Type := (Int × QdR × (List Int) × Unit)
def QP.c (k : Nat) {ρ : Type} (b0 : QdR) (b1 : (List Int)) (K : QP.τ → Option ρ) : Option ρ :=
 let v0 : Int := (((List.length b1) : Nat) : Int)
 K (v0, ((((), ((), ())), ()), (b1, ())))
def QP (k : Nat) (b0 : QdR) (b1 : (List Int)) : Option QP.τ := QP.c k b0 b1 some
def QP.T : Q1g := ⟨[.ptr 0 [0]], [.pair (.pair (.sfp 0 [0] 146) (.pair (.vbs 1) (.dat .unit))) (.dat .unit), .vec (.int .u8)], 1⟩
def QP.os : List Out := [⟨.ret, [.freeze (.slot 0), .auto 1], ⟨[.dat (.int .i64)], [.pair (.pair (.sfp 0 [0] 146) (.pair (.vbs 1) (.dat .unit))) (.dat .unit), .vec (.int .u8)]⟩⟩]
def QP.sem (k : Nat) : Qr := Q1j QP.T QP.os fun x => QP k x.1 x.2.1
noncomputable def QP.ctx (k : Nat) : Ctx := ⟨Tryz.prog, gam []⟩
theorem QP.gok (k : Nat) : ∀ f, Qm Tryz.prog f ((QP.ctx k).Γ f) := QK
def QP.ann (k : Nat) : Ann := .nil
theorem QP.body (k : Nat) : Q1n (QP.ctx k) Tryz.f148 (Func.code Tryz.f148) (QP.ann k) QP.T QP.os (fun x K => QP.c k x.1 x.2.1 K) := by
 intro ρ x K; kernel_rfl
theorem QP.sem_ok (k : Nat) : Qm Tryz.prog 148 (QP.sem k) :=
 Q0U (C := QP.ctx k) (QP.gok k) Tryz.mix (c := Func.code Tryz.f148) (ann := QP.ann k) (T := QP.T) (os := QP.os) (fun x K => QP.c k x.1 x.2.1 K) Tryz.func148 (by kernel_rfl) (by kernel_rfl) Q1.nil (QP.body k) (by kernel_rfl) (by kernel_rfl) (by kernel_rfl)
abbrev Q0u.τ : Type := (Int × QdR × (List Int) × Unit)
def Q0u.c (k : Nat) {ρ : Type} (b0 : QdR) (b1 : (List Int)) (K : Q0u.τ → Option ρ) : Option ρ :=
 (QP k (((), ((), ())), ()) b1).bind fun t0 => K (t0.1, ((((), ((), ())), ()), (t0.2.2.1, ())))
def Q0u (k : Nat) (b0 : QdR) (b1 : (List Int)) : Option Q0u.τ := Q0u.c k b0 b1 some
def Q0u.T : Q1g := ⟨[.ptr 0 []], [.pair (.pair (.sfp 0 [0] 146) (.pair (.vbs 1) (.dat .unit))) (.dat .unit), .vec (.int .u8)], 1⟩
def Q0u.os : List Out := [⟨.ret, [.freeze (.slot 0), .auto 1], ⟨[.dat (.int .i64)], [.pair (.pair (.sfp 0 [0] 146) (.pair (.vbs 1) (.dat .unit))) (.dat .unit), .vec (.int .u8)]⟩⟩]
def Q0u.sem (k : Nat) : Qr := Q1j Q0u.T Q0u.os fun x => Q0u k x.1 x.2.1
noncomputable def Q0u.ctx (k : Nat) : Ctx := ⟨Tryz.prog, gam [(148, (QP.sem k))]⟩
theorem Q0u.gok (k : Nat) : ∀ f, Qm Tryz.prog f ((Q0u.ctx k).Γ f) := (Q8 (QP.sem_ok k) QK)
def Q0u.ann (k : Nat) : Ann := .nil
theorem Q0u.body (k : Nat) : Q1n (Q0u.ctx k) Tryz.f134 (Func.code Tryz.f134) (Q0u.ann k) Q0u.T Q0u.os (fun x K => Q0u.c k x.1 x.2.1 K) := by
 intro ρ x K; kernel_rfl
theorem Q0u.sem_ok (k : Nat) : Qm Tryz.prog 134 (Q0u.sem k) :=
 Q0U (C := Q0u.ctx k) (Q0u.gok k) Tryz.mix (c := Func.code Tryz.f134) (ann := Q0u.ann k) (T := Q0u.T) (os := Q0u.os) (fun x K => Q0u.c k x.1 x.2.1 K) Tryz.func134 (by kernel_rfl) (by kernel_rfl) Q1.nil (Q0u.body k) (by kernel_rfl) (by kernel_rfl) (by kernel_rfl)
abbrev QJ.l0.σ : Type := QdG × Int × Int × QdR × (List Int) × Unit
abbrev QJ.l0.τ : Type := QdT ⊕ QdM 
def QJ.l0.r (k : Nat) {ρ : Type} (x : QJ.l0.σ) (kn : QJ.l0.σ → Option ρ) (ke : QJ.l0.τ → Option ρ) : Option ρ :=
 bif (decide (x.2.2.1 < x.2.1)) then (bif (decide (((0 : Int) ≤ x.2.2.1) ∧ (x.2.2.1 < (((List.length x.1) : Nat) : Int)))) then ((Qd k ((List.getD x.1 (Int.toNat x.2.2.1) ((0 : Int), ([], ([], ((0 : Int), ()))))).1, ((List.getD x.1 (Int.toNat x.2.2.1) ((0 : Int), ([], ([], ((0 : Int), ()))))).2.1, ((List.getD x.1 (Int.toNat x.2.2.1) ((0 : Int), ([], ([], ((0 : Int), ()))))).2.2.1, ((List.getD x.1 (Int.toNat x.2.2.1) ((0 : Int), ([], ([], ((0 : Int), ()))))).2.2.2.1, ()))))).bind fun t8 => let v9 : ByteArray := t8.1
 let v10 : Int := t8.2.1
 bif (v10 != (0 : Int)) then (ke (.inl ((⟨(List.toArray [])⟩ : ByteArray), (v10, ())))) else ((Qg k v9 (((), ((), ())), ()) x.2.2.2.2.1).bind fun t11 => let v12 : Int := (IntKind.wrap IntKind.i64 (x.2.2.1 + (1 : Int)))
 kn (x.1, (x.2.1, (v12, ((((), ((), ())), ()), (t11.2.1, ()))))))) else (none)) else (ke (.inr ((((), ((), ())), ()), (x.2.2.2.2.1, ()))))
def QJ.l0 (k : Nat) : Nat → QJ.l0.σ → Option QJ.l0.τ := Q1c (QJ.l0.r k)
def QJ.l0.T : StT := ⟨us 4 ++ .ptr 0 [] :: us 17 ++ .dat QdA :: .dat (.int .i64) :: .dat (.int .i64) :: us 20, [.pair (.pair (.sfp 0 [0] 146) (.pair (.vbs 1) (.dat .unit))) (.dat .unit), .vec (.int .u8)]⟩
def QJ.l0.os : List Out := [⟨.ret, [.mask [2, 3], .auto 0], ⟨us 2 ++ .dat .str :: .dat (.int .i64) :: us 41, []⟩⟩, ⟨(.exit 0), [.mask [4], .auto 0], ⟨us 4 ++ .ptr 0 [] :: us 40, [.pair (.pair (.sfp 0 [0] 146) (.pair (.vbs 1) (.dat .unit))) (.dat .unit), .vec (.int .u8)]⟩⟩]
def QJ.c (k : Nat) {ρ : Type} (b : QdB) (K : ByteArray × Int × Unit → Option ρ) : Option ρ :=
  (QR k ).bind fun t0 => (Q0X k (b.1.1, (b.1.2.1, (b.1.2.2.1, (b.1.2.2.2.1, (b.1.2.2.2.2.1, (b.1.2.2.2.2.2.1, ()))))))).bind fun t1 => (Qg k t1.1 (((), ((), ())), ()) t0.2.1).bind fun t2 => let v3 : QdG := b.2.1
  let v4 : Int := (((List.length v3) : Nat) : Int)
  (QQ k (IntKind.wrap IntKind.u64 v4) (((), ((), ())), ()) t2.2.1).bind fun t5 => let v6 : QdG := b.2.1
  let v7 : Int := (((List.length v6) : Nat) : Int)
  (QJ.l0 k k (v6, (v7, ((0 : Int), ((((), ((), ())), ()), (t5.2.1, ())))))).bind fun t13 => (match t13 with
 | .inl t14 => (K (t14.1, (t14.2.1, ())))
 | .inr (t15) => ((Q0u k (((), ((), ())), ()) t15.2.1).bind fun t16 => bif (decide (t16.1 > (8192 : Int))) then (K ((⟨(List.toArray [])⟩ : ByteArray), ((110 : Int), ()))) else ((Qx k (((), ((), ())), ()) t16.2.2.1).bind fun t17 => K (t17.1, ((0 : Int), ())))))
def QJ (k : Nat) (b : QdB) : Option QdT := QJ.c k b some
def QJ.tin : List Ty := [Qdz]
def QJ.tout : List Ty := [.str, (.int .i64)]
def QJ.sem (k : Nat) : Qr := QX QJ.tin QJ.tout fun x => QJ k x.1
noncomputable def QJ.ctx (k : Nat) : Ctx := ⟨Tryz.prog, gam [(33, (QR.sem k)), (35, (Q0X.sem k)), (34, (Qg.sem k)), (132, (QQ.sem k)), (133, (Qd.sem k)), (134, (Q0u.sem k)), (38, (Qx.sem k))]⟩
theorem QJ.gok (k : Nat) : ∀ f, Qm Tryz.prog f ((QJ.ctx k).Γ f) := (Q8 (QR.sem_ok k) (Q8 (Q0X.sem_ok k) (Q8 (Qg.sem_ok k) (Q8 (QQ.sem_ok k) (Q8 (Qd.sem_ok k) (Q8 (Q0u.sem_ok k) (Q8 (Qx.sem_ok k) QK)))))))
theorem QJ.l0.round (k : Nat) : Q1b (QJ.ctx k) (Q0y (Func.code Tryz.f116) [1, 1, 1, 1, 0, 1, 0, 0]) (.nil) QJ.l0.T [.mask [4, 22, 23, 24], .auto 0] QJ.l0.os (QJ.l0.r k) := by
 intro ρ x kn ke; kernel_rfl
theorem QJ.l0.ok (k : Nat) : StOK 0 Tryz.prog (.loop (Q0y (Func.code Tryz.f116) [1, 1, 1, 1, 0, 1, 0, 0])) (QO QJ.l0.T QJ.l0.os (QJ.l0 k k)) :=
 Q1e (C := QJ.ctx k) (QJ.gok k) Tryz.mix Q1.nil (by kernel_rfl) (by kernel_rfl) (by kernel_rfl) (QJ.l0.round k) k
def QJ.ann (k : Nat) : Ann := .node [] none (.nil) (.node [] none (.nil) (.node [] none (.nil) (.node [] none (.nil) (.node [] none (.node [] none (.nil) (.node [] none (.node [.mask [4, 22, 23, 24], .auto 0] (some (QO QJ.l0.T QJ.l0.os (QJ.l0 k k))) .nil .nil) (.nil))) (.nil)))))
theorem QJ.body (k : Nat) : Q0Y (QJ.ctx k) Tryz.f116 (Func.code Tryz.f116) (QJ.ann k) QJ.tin QJ.tout (fun x K => QJ.c k x.1 K) := by
 intro ρ x K; kernel_rfl
theorem QJ.sem_ok (k : Nat) : Qm Tryz.prog 116 (QJ.sem k) :=
 QD (C := QJ.ctx k) (QJ.gok k) Tryz.mix (c := Func.code Tryz.f116) (ann := QJ.ann k) (tin := QJ.tin) (tout := QJ.tout) (fun x K => QJ.c k x.1 K) Tryz.func116 (by kernel_rfl) (by kernel_rfl) (Q1.seq Q1.nil (Q1.seq Q1.nil (Q1.seq Q1.nil (Q1.seq Q1.nil (Q1.seq (Q1.seq Q1.nil (Q1.block (Q1.loop (by kernel_rfl) (QJ.l0.ok k)))) Q1.nil))))) (QJ.body k)
def Q18.c (k : Nat) {ρ : Type} (n : Int) (K : (List Int) × Unit → Option ρ) : Option ρ :=
 let v0 : (List Int) := (List.set (List.replicate 4 (0 : Int)) 0 n)
 K (v0, ())
def Q18 (k : Nat) (n : Int) : Option QdW := Q18.c k n some
def Q18.tin : List Ty := [(.int .u64)]
def Q18.tout : List Ty := [QdV]
def Q18.sem (k : Nat) : Qr := QX Q18.tin Q18.tout fun x => Q18 k x.1
noncomputable def Q18.ctx (k : Nat) : Ctx := ⟨Tryz.prog, gam []⟩
theorem Q18.gok (k : Nat) : ∀ f, Qm Tryz.prog f ((Q18.ctx k).Γ f) := QK
def Q18.ann (k : Nat) : Ann := .nil
theorem Q18.body (k : Nat) : Q0Y (Q18.ctx k) Tryz.f173 (Func.code Tryz.f173) (Q18.ann k) Q18.tin Q18.tout (fun x K => Q18.c k x.1 K) := by
 intro ρ x K; kernel_rfl
theorem Q18.sem_ok (k : Nat) : Qm Tryz.prog 173 (Q18.sem k) :=
 QD (C := Q18.ctx k) (Q18.gok k) Tryz.mix (c := Func.code Tryz.f173) (ann := Q18.ann k) (tin := Q18.tin) (tout := Q18.tout) (fun x K => Q18.c k x.1 K) Tryz.func173 (by kernel_rfl) (by kernel_rfl) Q1.nil (Q18.body k)
def Q1o (k : Nat) (a0 : (List Int)) (a1 : Int) : Option QdW := none
def Q1o.tin : List Ty := [QdV, (.int .i64)]
def Q1o.tout : List Ty := [QdV]
def Q1o.sem (k : Nat) : Qr := QX Q1o.tin Q1o.tout fun x => Q1o k x.1 x.2.1
theorem Q1o.sem_ok (k : Nat) : Qm Tryz.prog 177 (Q1o.sem k) := Q9c fun _ => rfl
def Q13.c (k : Nat) {ρ : Type} (a : (List Int)) (K : Bool × Unit → Option ρ) : Option ρ :=
 let v0 : (List Int) := (List.replicate 4 (0 : Int))
 K ((decide (a = v0)), ())
def Q13 (k : Nat) (a : (List Int)) : Option (Bool × Unit) := Q13.c k a some
def Q13.tin : List Ty := [QdV]
def Q13.tout : List Ty := [.bool]
def Q13.sem (k : Nat) : Qr := QX Q13.tin Q13.tout fun x => Q13 k x.1
noncomputable def Q13.ctx (k : Nat) : Ctx := ⟨Tryz.prog, gam []⟩
theorem Q13.gok (k : Nat) : ∀ f, Qm Tryz.prog f ((Q13.ctx k).Γ f) := QK
def Q13.ann (k : Nat) : Ann := .nil
theorem Q13.body (k : Nat) : Q0Y (Q13.ctx k) Tryz.f168 (Func.code Tryz.f168) (Q13.ann k) Q13.tin Q13.tout (fun x K => Q13.c k x.1 K) := by
 intro ρ x K; kernel_rfl
theorem Q13.sem_ok (k : Nat) : Qm Tryz.prog 168 (Q13.sem k) :=
 QD (C := Q13.ctx k) (Q13.gok k) Tryz.mix (c := Func.code Tryz.f168) (ann := Q13.ann k) (tin := Q13.tin) (tout := Q13.tout) (fun x K => Q13.c k x.1 K) Tryz.func168 (by kernel_rfl) (by kernel_rfl) Q1.nil (Q13.body k)
abbrev Q6.p0.σ : Type := Int × Int × Unit
abbrev Q6.p0.τ : Type := (Int × Int × Unit)
def Q6.p0.r (k : Nat) {ρ : Type} (x : Q6.p0.σ) (K : Q6.p0.τ → Option ρ) : Option ρ :=
 bif (decide (x.1 ≥ (4294967296 : Int))) then (let v0 : Int := (Q29 IntKind.u64 x.1 (32 : Int))
 K (v0, ((32 : Int), ()))) else (K (x.1, (x.2.1, ())))
def Q6.p0 (k : Nat) (x : Q6.p0.σ) : Option Q6.p0.τ := Q6.p0.r k x some
def Q6.p0.T : StT := ⟨.dat (.int .u64) :: us 1 ++ .dat (.int .i64) :: us 22, []⟩
def Q6.p0.os : List Out := [⟨.normal, [.mask [0, 2], .auto 0], ⟨.dat (.int .u64) :: us 1 ++ .dat (.int .i64) :: us 22, []⟩⟩]
abbrev Q6.p1.σ : Type := Int × Int × Unit
abbrev Q6.p1.τ : Type := (Int × Int × Unit)
def Q6.p1.r (k : Nat) {ρ : Type} (x : Q6.p1.σ) (K : Q6.p1.τ → Option ρ) : Option ρ :=
 bif (decide (x.1 ≥ (65536 : Int))) then (let v2 : Int := (Q29 IntKind.u64 x.1 (16 : Int))
 let v3 : Int := (IntKind.wrap IntKind.i64 (x.2.1 + (16 : Int)))
 K (v2, (v3, ()))) else (K (x.1, (x.2.1, ())))
def Q6.p1 (k : Nat) (x : Q6.p1.σ) : Option Q6.p1.τ := Q6.p1.r k x some
def Q6.p1.T : StT := ⟨.dat (.int .u64) :: us 1 ++ .dat (.int .i64) :: us 22, []⟩
def Q6.p1.os : List Out := [⟨.normal, [.mask [0, 2], .auto 0], ⟨.dat (.int .u64) :: us 1 ++ .dat (.int .i64) :: us 22, []⟩⟩]
def Q6.c (k : Nat) {ρ : Type} (x_0 : Int) (K : Int × Unit → Option ρ) : Option ρ :=
 (Q6.p0 k (x_0, ((0 : Int), ()))).bind fun t1 => (Q6.p1 k (t1.1, (t1.2.1, ()))).bind fun t4 => bif (decide (t4.1 ≥ (256 : Int))) then (let v5 : Int := (Q29 IntKind.u64 t4.1 (8 : Int))
 let v6 : Int := (IntKind.wrap IntKind.i64 (t4.2.1 + (8 : Int)))
 bif (decide (((0 : Int) ≤ (IntKind.wrap IntKind.u8 v5)) ∧ ((IntKind.wrap IntKind.u8 v5) < ((256 : Nat) : Int)))) then (let v7 : Int := (Q1r (⟨(List.toArray (List.append (List.append [0, 1, 2, 2, 3, 3, 3, 3, 4, 4, 4, 4, 4, 4, 4, 4, 5, 5, 5, 5, 5, 5, 5, 5, 5, 5, 5, 5, 5, 5, 5, 5, 6, 6, 6, 6, 6, 6, 6, 6, 6, 6, 6, 6, 6, 6, 6, 6, 6, 6, 6, 6, 6, 6, 6, 6, 6, 6, 6, 6, 6, 6, 6, 6] [7, 7, 7, 7, 7, 7, 7, 7, 7, 7, 7, 7, 7, 7, 7, 7, 7, 7, 7, 7, 7, 7, 7, 7, 7, 7, 7, 7, 7, 7, 7, 7, 7, 7, 7, 7, 7, 7, 7, 7, 7, 7, 7, 7, 7, 7, 7, 7, 7, 7, 7, 7, 7, 7, 7, 7, 7, 7, 7, 7, 7, 7, 7, 7]) (List.append [8, 8, 8, 8, 8, 8, 8, 8, 8, 8, 8, 8, 8, 8, 8, 8, 8, 8, 8, 8, 8, 8, 8, 8, 8, 8, 8, 8, 8, 8, 8, 8, 8, 8, 8, 8, 8, 8, 8, 8, 8, 8, 8, 8, 8, 8, 8, 8, 8, 8, 8, 8, 8, 8, 8, 8, 8, 8, 8, 8, 8, 8, 8, 8] [8, 8, 8, 8, 8, 8, 8, 8, 8, 8, 8, 8, 8, 8, 8, 8, 8, 8, 8, 8, 8, 8, 8, 8, 8, 8, 8, 8, 8, 8, 8, 8, 8, 8, 8, 8, 8, 8, 8, 8, 8, 8, 8, 8, 8, 8, 8, 8, 8, 8, 8, 8, 8, 8, 8, 8, 8, 8, 8, 8, 8, 8, 8, 8])))⟩ : ByteArray) (Int.toNat (IntKind.wrap IntKind.u8 v5)))
 let v8 : Int := (IntKind.wrap IntKind.i64 (v6 + (IntKind.wrap IntKind.i64 v7)))
 K (v8, ())) else (none)) else (let v9 : Int := (IntKind.wrap IntKind.u8 t4.1)
 bif (decide (((0 : Int) ≤ v9) ∧ (v9 < ((256 : Nat) : Int)))) then (let v10 : Int := (Q1r (⟨(List.toArray (List.append (List.append [0, 1, 2, 2, 3, 3, 3, 3, 4, 4, 4, 4, 4, 4, 4, 4, 5, 5, 5, 5, 5, 5, 5, 5, 5, 5, 5, 5, 5, 5, 5, 5, 6, 6, 6, 6, 6, 6, 6, 6, 6, 6, 6, 6, 6, 6, 6, 6, 6, 6, 6, 6, 6, 6, 6, 6, 6, 6, 6, 6, 6, 6, 6, 6] [7, 7, 7, 7, 7, 7, 7, 7, 7, 7, 7, 7, 7, 7, 7, 7, 7, 7, 7, 7, 7, 7, 7, 7, 7, 7, 7, 7, 7, 7, 7, 7, 7, 7, 7, 7, 7, 7, 7, 7, 7, 7, 7, 7, 7, 7, 7, 7, 7, 7, 7, 7, 7, 7, 7, 7, 7, 7, 7, 7, 7, 7, 7, 7]) (List.append [8, 8, 8, 8, 8, 8, 8, 8, 8, 8, 8, 8, 8, 8, 8, 8, 8, 8, 8, 8, 8, 8, 8, 8, 8, 8, 8, 8, 8, 8, 8, 8, 8, 8, 8, 8, 8, 8, 8, 8, 8, 8, 8, 8, 8, 8, 8, 8, 8, 8, 8, 8, 8, 8, 8, 8, 8, 8, 8, 8, 8, 8, 8, 8] [8, 8, 8, 8, 8, 8, 8, 8, 8, 8, 8, 8, 8, 8, 8, 8, 8, 8, 8, 8, 8, 8, 8, 8, 8, 8, 8, 8, 8, 8, 8, 8, 8, 8, 8, 8, 8, 8, 8, 8, 8, 8, 8, 8, 8, 8, 8, 8, 8, 8, 8, 8, 8, 8, 8, 8, 8, 8, 8, 8, 8, 8, 8, 8])))⟩ : ByteArray) (Int.toNat v9))
 let v11 : Int := (IntKind.wrap IntKind.i64 (t4.2.1 + (IntKind.wrap IntKind.i64 v10)))
 K (v11, ())) else (none))
def Q6 (k : Nat) (x_0 : Int) : Option (Int × Unit) := Q6.c k x_0 some
def Q6.tin : List Ty := [(.int .u64)]
def Q6.tout : List Ty := [(.int .i64)]
def Q6.sem (k : Nat) : Qr := QX Q6.tin Q6.tout fun x => Q6 k x.1
noncomputable def Q6.ctx (k : Nat) : Ctx := ⟨Tryz.prog, gam []⟩
theorem Q6.gok (k : Nat) : ∀ f, Qm Tryz.prog f ((Q6.ctx k).Γ f) := QK
theorem Q6.p1.is (k : Nat) : Q2G (Q6.ctx k) (Q0y (Func.code Tryz.f179) [1, 1, 0]) (.nil) Q6.p1.T Q6.p1.os (Q6.p1.r k) := by
 intro ρ x K; kernel_rfl
theorem Q6.p1.ok (k : Nat) : StOK 0 Tryz.prog (Q0y (Func.code Tryz.f179) [1, 1, 0]) (QO Q6.p1.T Q6.p1.os (Q6.p1 k)) :=
 Q2w (C := Q6.ctx k) (T := Q6.p1.T) (os := Q6.p1.os) (Q6.gok k) Tryz.mix (fun x K => Q6.p1.r k x K) Q1.nil (by kernel_rfl) (by kernel_rfl) (Q6.p1.is k)
theorem Q6.p0.is (k : Nat) : Q2G (Q6.ctx k) (Q0y (Func.code Tryz.f179) [1, 0]) (.nil) Q6.p0.T Q6.p0.os (Q6.p0.r k) := by
 intro ρ x K; kernel_rfl
theorem Q6.p0.ok (k : Nat) : StOK 0 Tryz.prog (Q0y (Func.code Tryz.f179) [1, 0]) (QO Q6.p0.T Q6.p0.os (Q6.p0 k)) :=
 Q2w (C := Q6.ctx k) (T := Q6.p0.T) (os := Q6.p0.os) (Q6.gok k) Tryz.mix (fun x K => Q6.p0.r k x K) Q1.nil (by kernel_rfl) (by kernel_rfl) (Q6.p0.is k)
def Q6.ann (k : Nat) : Ann := .node [] none (.nil) (.node [] none (.node [] (some (QO Q6.p0.T Q6.p0.os (Q6.p0 k))) .nil .nil) (.node [] none (.node [] (some (QO Q6.p1.T Q6.p1.os (Q6.p1 k))) .nil .nil) (.nil)))
theorem Q6.body (k : Nat) : Q0Y (Q6.ctx k) Tryz.f179 (Func.code Tryz.f179) (Q6.ann k) Q6.tin Q6.tout (fun x K => Q6.c k x.1 K) := by
 intro ρ x K; kernel_rfl
theorem Q6.sem_ok (k : Nat) : Qm Tryz.prog 179 (Q6.sem k) :=
 QD (C := Q6.ctx k) (Q6.gok k) Tryz.mix (c := Func.code Tryz.f179) (ann := Q6.ann k) (tin := Q6.tin) (tout := Q6.tout) (fun x K => Q6.c k x.1 K) Tryz.func179 (by kernel_rfl) (by kernel_rfl) (Q1.seq Q1.nil (Q1.seq (Q1.loop (by kernel_rfl) (Q6.p0.ok k)) (Q1.seq (Q1.loop (by kernel_rfl) (Q6.p1.ok k)) Q1.nil))) (Q6.body k)
abbrev Q0q.l0.σ : Type := Int × (List Int) × Unit
abbrev Q0q.l0.τ : Type := (Int × Unit) ⊕ (Unit)
def Q0q.l0.r (k : Nat) {ρ : Type} (x : Q0q.l0.σ) (kn : Q0q.l0.σ → Option ρ) (ke : Q0q.l0.τ → Option ρ) : Option ρ :=
 bif (decide (x.1 ≥ (0 : Int))) then (bif (decide (((0 : Int) ≤ x.1) ∧ (x.1 < ((4 : Nat) : Int)))) then (let v0 : Int := (List.getD x.2.1 (Int.toNat x.1) (0 : Int))
 bif (v0 != (0 : Int)) then (let v1 : Int := (IntKind.wrap IntKind.i64 (x.1 * (64 : Int)))
 bif (decide (((0 : Int) ≤ x.1) ∧ (x.1 < ((4 : Nat) : Int)))) then (let v2 : Int := (List.getD x.2.1 (Int.toNat x.1) (0 : Int))
 (Q6 k v2).bind fun t3 => let v4 : Int := (IntKind.wrap IntKind.i64 (v1 + t3.1))
 ke (.inl (v4, ()))) else (none)) else (let v5 : Int := (IntKind.wrap IntKind.i64 (x.1 - (1 : Int)))
 kn (v5, (x.2.1, ())))) else (none)) else (ke (.inr ()))
def Q0q.l0 (k : Nat) : Nat → Q0q.l0.σ → Option Q0q.l0.τ := Q1c (Q0q.l0.r k)
def Q0q.l0.T : StT := ⟨us 1 ++ .ptr 0 [] :: us 1 ++ .dat (.int .i64) :: us 15, [.dat QdV]⟩
def Q0q.l0.os : List Out := [⟨.ret, [.mask [2], .auto 0], ⟨us 2 ++ .dat (.int .i64) :: us 16, []⟩⟩, ⟨(.exit 0), [.mask [], .auto 0], ⟨us 19, []⟩⟩]
def Q0q.c (k : Nat) {ρ : Type} (a : (List Int)) (K : Int × Unit → Option ρ) : Option ρ :=
  (Q0q.l0 k k ((3 : Int), (a, ()))).bind fun t6 => (match t6 with
 | .inl t7 => (K (t7.1, ()))
 | .inr (t8) => (K ((0 : Int), ())))
def Q0q (k : Nat) (a : (List Int)) : Option (Int × Unit) := Q0q.c k a some
def Q0q.tin : List Ty := [QdV]
def Q0q.tout : List Ty := [(.int .i64)]
def Q0q.sem (k : Nat) : Qr := QX Q0q.tin Q0q.tout fun x => Q0q k x.1
noncomputable def Q0q.ctx (k : Nat) : Ctx := ⟨Tryz.prog, gam [(179, (Q6.sem k))]⟩
theorem Q0q.gok (k : Nat) : ∀ f, Qm Tryz.prog f ((Q0q.ctx k).Γ f) := (Q8 (Q6.sem_ok k) QK)
theorem Q0q.l0.round (k : Nat) : Q1b (Q0q.ctx k) (Q0y (Func.code Tryz.f175) [1, 0, 1, 0, 0]) (.nil) Q0q.l0.T [.mask [1, 3], .auto 0] Q0q.l0.os (Q0q.l0.r k) := by
 intro ρ x kn ke; kernel_rfl
theorem Q0q.l0.ok (k : Nat) : StOK 0 Tryz.prog (.loop (Q0y (Func.code Tryz.f175) [1, 0, 1, 0, 0])) (QO Q0q.l0.T Q0q.l0.os (Q0q.l0 k k)) :=
 Q1e (C := Q0q.ctx k) (Q0q.gok k) Tryz.mix Q1.nil (by kernel_rfl) (by kernel_rfl) (by kernel_rfl) (Q0q.l0.round k) k
def Q0q.ann (k : Nat) : Ann := .node [] none (.nil) (.node [] none (.node [] none (.nil) (.node [] none (.node [.mask [1, 3], .auto 0] (some (QO Q0q.l0.T Q0q.l0.os (Q0q.l0 k k))) .nil .nil) (.nil))) (.nil))
theorem Q0q.body (k : Nat) : Q0Y (Q0q.ctx k) Tryz.f175 (Func.code Tryz.f175) (Q0q.ann k) Q0q.tin Q0q.tout (fun x K => Q0q.c k x.1 K) := by
 intro ρ x K; kernel_rfl
theorem Q0q.sem_ok (k : Nat) : Qm Tryz.prog 175 (Q0q.sem k) :=
 QD (C := Q0q.ctx k) (Q0q.gok k) Tryz.mix (c := Func.code Tryz.f175) (ann := Q0q.ann k) (tin := Q0q.tin) (tout := Q0q.tout) (fun x K => Q0q.c k x.1 K) Tryz.func175 (by kernel_rfl) (by kernel_rfl) (Q1.seq Q1.nil (Q1.seq (Q1.seq Q1.nil (Q1.block (Q1.loop (by kernel_rfl) (Q0q.l0.ok k)))) Q1.nil)) (Q0q.body k)
abbrev Q0p.l0.σ : Type := Int × Int × (List Int) × (List Int) × (List Int) × Unit
abbrev Q0p.l0.τ : Type := (Int × (List Int) × (List Int) × (List Int) × Unit)
def Q0p.l0.r (k : Nat) {ρ : Type} (x : Q0p.l0.σ) (kn : Q0p.l0.σ → Option ρ) (ke : Q0p.l0.τ → Option ρ) : Option ρ :=
 let v5 : Int := (IntKind.wrap IntKind.i64 (Int.tdiv x.1 (64 : Int)))
 bif (decide (x.2.1 ≥ v5)) then (let v6 : Int := (IntKind.wrap IntKind.i64 (Int.tdiv x.1 (64 : Int)))
 let v7 : Int := (IntKind.wrap IntKind.i64 (x.2.1 - v6))
 bif (decide (((0 : Int) ≤ v7) ∧ (v7 < ((4 : Nat) : Int)))) then (let v8 : Int := (List.getD x.2.2.1 (Int.toNat v7) (0 : Int))
 let v9 : Int := (Int.tmod x.1 (64 : Int))
 bif (decide ((0 : Int) ≤ v9)) then (bif (decide (((0 : Int) ≤ x.2.1) ∧ (x.2.1 < ((4 : Nat) : Int)))) then (bif (decide (v7 > (0 : Int))) then (bif (decide (((0 : Int) ≤ x.2.1) ∧ (x.2.1 < ((4 : Nat) : Int)))) then (let v10 : Int := (List.getD (List.set x.2.2.2.2.1 (Int.toNat x.2.1) (Q30 IntKind.u64 v8 v9)) (Int.toNat x.2.1) (0 : Int))
 let v11 : Int := (IntKind.wrap IntKind.i64 (v7 - (1 : Int)))
 bif (decide (((0 : Int) ≤ v11) ∧ (v11 < ((4 : Nat) : Int)))) then (let v12 : Int := (List.getD x.2.2.1 (Int.toNat v11) (0 : Int))
 let v13 : Int := (Int.tmod x.1 (64 : Int))
 let v14 : Int := (IntKind.wrap IntKind.i64 ((64 : Int) - v13))
 bif (decide ((0 : Int) ≤ v14)) then (let v15 : Int := (Q1d BinOp.or IntKind.u64 v10 (Q29 IntKind.u64 v12 v14))
 bif (decide (((0 : Int) ≤ x.2.1) ∧ (x.2.1 < ((4 : Nat) : Int)))) then (let v16 : Int := (IntKind.wrap IntKind.i64 (x.2.1 - (1 : Int)))
 kn (x.1, (v16, (x.2.2.1, (x.2.2.2.1, ((List.set (List.set x.2.2.2.2.1 (Int.toNat x.2.1) (Q30 IntKind.u64 v8 v9)) (Int.toNat x.2.1) v15), ())))))) else (none)) else (none)) else (none)) else (none)) else (let v17 : Int := (IntKind.wrap IntKind.i64 (x.2.1 - (1 : Int)))
 kn (x.1, (v17, (x.2.2.1, (x.2.2.2.1, ((List.set x.2.2.2.2.1 (Int.toNat x.2.1) (Q30 IntKind.u64 v8 v9)), ()))))))) else (none)) else (none)) else (none)) else (ke (x.1, (x.2.2.1, (x.2.2.2.1, (x.2.2.2.2.1, ())))))
def Q0p.l0 (k : Nat) : Nat → Q0p.l0.σ → Option Q0p.l0.τ := Q1c (Q0p.l0.r k)
def Q0p.l0.T : StT := ⟨us 1 ++ .dat (.int .i64) :: .ptr 0 [] :: us 1 ++ .ptr 1 [] :: us 1 ++ .ptr 2 [] :: .dat (.int .i64) :: us 55, [.dat QdV, .dat QdV, .dat QdV]⟩
def Q0p.l0.os : List Out := [⟨(.exit 1), [.mask [1, 2, 4, 6], .auto 0], ⟨us 1 ++ .dat (.int .i64) :: .ptr 0 [] :: us 1 ++ .ptr 1 [] :: us 1 ++ .ptr 2 [] :: us 56, [.dat QdV, .dat QdV, .dat QdV]⟩⟩]
def Q0p.c (k : Nat) {ρ : Type} (a : (List Int)) (n : Int) (K : (List Int) × Bool × Unit → Option ρ) : Option ρ :=
 bif (decide (n < (0 : Int))) then (let v0 : Int := (if ((-(256 : Int)) > n) then (-(256 : Int)) else n)
 let v1 : Int := (IntKind.wrap IntKind.i64 ((0 : Int) - v0))
 (Q1o k a v1).bind fun t2 => K (t2.1, (false, ()))) else (bif (decide (n ≥ (256 : Int))) then (let v3 : (List Int) := (List.replicate 4 (0 : Int))
 (Q13 k a).bind fun t4 => K (v3, ((!t4.1), ()))) else ((Q0p.l0 k k (n, ((3 : Int), (a, ((List.replicate 4 (0 : Int)), ((List.replicate 4 (0 : Int)), ())))))).bind fun t18 => let v19 : (List Int) := t18.2.2.2.1
 let v20 : (List Int) := t18.2.1
 (Q0q k v20).bind fun t21 => let v22 : Int := (IntKind.wrap IntKind.i64 (t21.1 + t18.1))
 K (v19, ((decide (v22 > (256 : Int))), ()))))
def Q0p (k : Nat) (a : (List Int)) (n : Int) : Option ((List Int) × Bool × Unit) := Q0p.c k a n some
def Q0p.tin : List Ty := [QdV, (.int .i64)]
def Q0p.tout : List Ty := [QdV, .bool]
def Q0p.sem (k : Nat) : Qr := QX Q0p.tin Q0p.tout fun x => Q0p k x.1 x.2.1
noncomputable def Q0p.ctx (k : Nat) : Ctx := ⟨Tryz.prog, gam [(177, (Q1o.sem k)), (168, (Q13.sem k)), (175, (Q0q.sem k))]⟩
theorem Q0p.gok (k : Nat) : ∀ f, Qm Tryz.prog f ((Q0p.ctx k).Γ f) := (Q8 (Q1o.sem_ok k) (Q8 (Q13.sem_ok k) (Q8 (Q0q.sem_ok k) QK)))
theorem Q0p.l0.round (k : Nat) : Q1b (Q0p.ctx k) (Q0y (Func.code Tryz.f178) [1, 1, 1, 0, 1, 0, 0]) (.nil) Q0p.l0.T [.mask [1, 2, 4, 6, 7], .auto 0] Q0p.l0.os (Q0p.l0.r k) := by
 intro ρ x kn ke; kernel_rfl
theorem Q0p.l0.ok (k : Nat) : StOK 0 Tryz.prog (.loop (Q0y (Func.code Tryz.f178) [1, 1, 1, 0, 1, 0, 0])) (QO Q0p.l0.T Q0p.l0.os (Q0p.l0 k k)) :=
 Q1e (C := Q0p.ctx k) (Q0p.gok k) Tryz.mix Q1.nil (by kernel_rfl) (by kernel_rfl) (by kernel_rfl) (Q0p.l0.round k) k
def Q0p.ann (k : Nat) : Ann := .node [] none (.nil) (.node [] none (.nil) (.node [] none (.nil) (.node [] none (.node [] none (.nil) (.node [] none (.node [.mask [1, 2, 4, 6, 7], .auto 0] (some (QO Q0p.l0.T Q0p.l0.os (Q0p.l0 k k))) .nil .nil) (.nil))) (.nil))))
theorem Q0p.body (k : Nat) : Q0Y (Q0p.ctx k) Tryz.f178 (Func.code Tryz.f178) (Q0p.ann k) Q0p.tin Q0p.tout (fun x K => Q0p.c k x.1 x.2.1 K) := by
 intro ρ x K; kernel_rfl
theorem Q0p.sem_ok (k : Nat) : Qm Tryz.prog 178 (Q0p.sem k) :=
 QD (C := Q0p.ctx k) (Q0p.gok k) Tryz.mix (c := Func.code Tryz.f178) (ann := Q0p.ann k) (tin := Q0p.tin) (tout := Q0p.tout) (fun x K => Q0p.c k x.1 x.2.1 K) Tryz.func178 (by kernel_rfl) (by kernel_rfl) (Q1.seq Q1.nil (Q1.seq Q1.nil (Q1.seq Q1.nil (Q1.seq (Q1.seq Q1.nil (Q1.block (Q1.loop (by kernel_rfl) (Q0p.l0.ok k)))) Q1.nil)))) (Q0p.body k)
abbrev Q0b.l0.σ : Type := Int × Int × (List Int) × (List Int) × (List Int) × Unit
abbrev Q0b.l0.τ : Type := ((List Int) × (List Int) × Unit)
def Q0b.l0.r (k : Nat) {ρ : Type} (x : Q0b.l0.σ) (kn : Q0b.l0.σ → Option ρ) (ke : Q0b.l0.τ → Option ρ) : Option ρ :=
 let v5 : Int := (IntKind.wrap IntKind.i64 (Int.tdiv x.1 (64 : Int)))
 let v6 : Int := (IntKind.wrap IntKind.i64 (x.2.1 + v5))
 bif (decide (v6 < (4 : Int))) then (let v7 : Int := (IntKind.wrap IntKind.i64 (Int.tdiv x.1 (64 : Int)))
 let v8 : Int := (IntKind.wrap IntKind.i64 (x.2.1 + v7))
 bif (decide (((0 : Int) ≤ v8) ∧ (v8 < ((4 : Nat) : Int)))) then (let v9 : Int := (List.getD x.2.2.1 (Int.toNat v8) (0 : Int))
 let v10 : Int := (Int.tmod x.1 (64 : Int))
 bif (decide ((0 : Int) ≤ v10)) then (bif (decide (((0 : Int) ≤ x.2.1) ∧ (x.2.1 < ((4 : Nat) : Int)))) then (let v11 : Int := (IntKind.wrap IntKind.i64 (v8 + (1 : Int)))
 bif (decide (v11 < (4 : Int))) then (bif (decide (((0 : Int) ≤ x.2.1) ∧ (x.2.1 < ((4 : Nat) : Int)))) then (let v12 : Int := (List.getD (List.set x.2.2.2.2.1 (Int.toNat x.2.1) (Q29 IntKind.u64 v9 v10)) (Int.toNat x.2.1) (0 : Int))
 let v13 : Int := (IntKind.wrap IntKind.i64 (v8 + (1 : Int)))
 bif (decide (((0 : Int) ≤ v13) ∧ (v13 < ((4 : Nat) : Int)))) then (let v14 : Int := (List.getD x.2.2.1 (Int.toNat v13) (0 : Int))
 let v15 : Int := (Int.tmod x.1 (64 : Int))
 let v16 : Int := (IntKind.wrap IntKind.i64 ((64 : Int) - v15))
 bif (decide ((0 : Int) ≤ v16)) then (let v17 : Int := (Q1d BinOp.or IntKind.u64 v12 (Q30 IntKind.u64 v14 v16))
 bif (decide (((0 : Int) ≤ x.2.1) ∧ (x.2.1 < ((4 : Nat) : Int)))) then (let v18 : Int := (IntKind.wrap IntKind.i64 (x.2.1 + (1 : Int)))
 kn (x.1, (v18, (x.2.2.1, (x.2.2.2.1, ((List.set (List.set x.2.2.2.2.1 (Int.toNat x.2.1) (Q29 IntKind.u64 v9 v10)) (Int.toNat x.2.1) v17), ())))))) else (none)) else (none)) else (none)) else (none)) else (let v19 : Int := (IntKind.wrap IntKind.i64 (x.2.1 + (1 : Int)))
 kn (x.1, (v19, (x.2.2.1, (x.2.2.2.1, ((List.set x.2.2.2.2.1 (Int.toNat x.2.1) (Q29 IntKind.u64 v9 v10)), ()))))))) else (none)) else (none)) else (none)) else (ke (x.2.2.2.1, (x.2.2.2.2.1, ())))
def Q0b.l0 (k : Nat) : Nat → Q0b.l0.σ → Option Q0b.l0.τ := Q1c (Q0b.l0.r k)
def Q0b.l0.T : StT := ⟨us 1 ++ .dat (.int .i64) :: .ptr 0 [] :: us 1 ++ .ptr 1 [] :: us 2 ++ .ptr 2 [] :: .dat (.int .i64) :: us 53, [.dat QdV, .dat QdV, .dat QdV]⟩
def Q0b.l0.os : List Out := [⟨(.exit 1), [.mask [4, 7], .auto 0], ⟨us 4 ++ .ptr 0 [] :: us 2 ++ .ptr 1 [] :: us 54, [.dat QdV, .dat QdV]⟩⟩]
def Q0b.c (k : Nat) {ρ : Type} (a : (List Int)) (n : Int) (K : (List Int) × Unit → Option ρ) : Option ρ :=
 bif (decide (n < (0 : Int))) then (let v0 : Int := (if ((-(256 : Int)) > n) then (-(256 : Int)) else n)
 let v1 : Int := (IntKind.wrap IntKind.i64 ((0 : Int) - v0))
 (Q0p k a v1).bind fun t2 => let v3 : (List Int) := t2.1
 K (v3, ())) else (bif (decide (n ≥ (256 : Int))) then (let v4 : (List Int) := (List.replicate 4 (0 : Int))
 K (v4, ())) else ((Q0b.l0 k k (n, ((0 : Int), (a, ((List.replicate 4 (0 : Int)), ((List.replicate 4 (0 : Int)), ())))))).bind fun t20 => let v21 : (List Int) := t20.2.1
 K (v21, ())))
def Q0b (k : Nat) (a : (List Int)) (n : Int) : Option QdW := Q0b.c k a n some
def Q0b.tin : List Ty := [QdV, (.int .i64)]
def Q0b.tout : List Ty := [QdV]
def Q0b.sem (k : Nat) : Qr := QX Q0b.tin Q0b.tout fun x => Q0b k x.1 x.2.1
noncomputable def Q0b.ctx (k : Nat) : Ctx := ⟨Tryz.prog, gam [(178, (Q0p.sem k))]⟩
theorem Q0b.gok (k : Nat) : ∀ f, Qm Tryz.prog f ((Q0b.ctx k).Γ f) := (Q8 (Q0p.sem_ok k) QK)
theorem Q0b.l0.round (k : Nat) : Q1b (Q0b.ctx k) (Q0y (Func.code Tryz.f177) [1, 1, 1, 0, 1, 0, 0]) (.nil) Q0b.l0.T [.mask [1, 2, 4, 7, 8], .auto 0] Q0b.l0.os (Q0b.l0.r k) := by
 intro ρ x kn ke; kernel_rfl
theorem Q0b.l0.ok (k : Nat) : StOK 0 Tryz.prog (.loop (Q0y (Func.code Tryz.f177) [1, 1, 1, 0, 1, 0, 0])) (QO Q0b.l0.T Q0b.l0.os (Q0b.l0 k k)) :=
 Q1e (C := Q0b.ctx k) (Q0b.gok k) Tryz.mix Q1.nil (by kernel_rfl) (by kernel_rfl) (by kernel_rfl) (Q0b.l0.round k) k
def Q0b.ann (k : Nat) : Ann := .node [] none (.nil) (.node [] none (.nil) (.node [] none (.nil) (.node [] none (.node [] none (.nil) (.node [] none (.node [.mask [1, 2, 4, 7, 8], .auto 0] (some (QO Q0b.l0.T Q0b.l0.os (Q0b.l0 k k))) .nil .nil) (.nil))) (.nil))))
theorem Q0b.body (k : Nat) : Q0Y (Q0b.ctx k) Tryz.f177 (Func.code Tryz.f177) (Q0b.ann k) Q0b.tin Q0b.tout (fun x K => Q0b.c k x.1 x.2.1 K) := by
 intro ρ x K; kernel_rfl
theorem Q0b.sem_ok (k : Nat) : Qm Tryz.prog 177 (Q0b.sem k) :=
 QD (C := Q0b.ctx k) (Q0b.gok k) Tryz.mix (c := Func.code Tryz.f177) (ann := Q0b.ann k) (tin := Q0b.tin) (tout := Q0b.tout) (fun x K => Q0b.c k x.1 x.2.1 K) Tryz.func177 (by kernel_rfl) (by kernel_rfl) (Q1.seq Q1.nil (Q1.seq Q1.nil (Q1.seq Q1.nil (Q1.seq (Q1.seq Q1.nil (Q1.block (Q1.loop (by kernel_rfl) (Q0b.l0.ok k)))) Q1.nil)))) (Q0b.body k)
def Q0A.c (k : Nat) {ρ : Type} (w : (List Int)) (bytes : Int) (K : (List Int) × Unit → Option ρ) : Option ρ :=
 bif (decide (bytes < (0 : Int))) then (let v0 : Int := (IntKind.wrap IntKind.i64 ((0 : Int) - bytes))
 let v1 : Int := (IntKind.wrap IntKind.i64 (v0 * (8 : Int)))
 (Q0b k w v1).bind fun t2 => K (t2.1, ())) else (let v3 : Int := (IntKind.wrap IntKind.i64 (bytes * (8 : Int)))
 (Q0p k w v3).bind fun t4 => let v5 : (List Int) := t4.1
 K (v5, ()))
def Q0A (k : Nat) (w : (List Int)) (bytes : Int) : Option QdW := Q0A.c k w bytes some
def Q0A.tin : List Ty := [QdV, (.int .i64)]
def Q0A.tout : List Ty := [QdV]
def Q0A.sem (k : Nat) : Qr := QX Q0A.tin Q0A.tout fun x => Q0A k x.1 x.2.1
noncomputable def Q0A.ctx (k : Nat) : Ctx := ⟨Tryz.prog, gam [(177, (Q0b.sem k)), (178, (Q0p.sem k))]⟩
theorem Q0A.gok (k : Nat) : ∀ f, Qm Tryz.prog f ((Q0A.ctx k).Γ f) := (Q8 (Q0b.sem_ok k) (Q8 (Q0p.sem_ok k) QK))
def Q0A.ann (k : Nat) : Ann := .nil
theorem Q0A.body (k : Nat) : Q0Y (Q0A.ctx k) Tryz.f174 (Func.code Tryz.f174) (Q0A.ann k) Q0A.tin Q0A.tout (fun x K => Q0A.c k x.1 x.2.1 K) := by
 intro ρ x K; kernel_rfl
theorem Q0A.sem_ok (k : Nat) : Qm Tryz.prog 174 (Q0A.sem k) :=
 QD (C := Q0A.ctx k) (Q0A.gok k) Tryz.mix (c := Func.code Tryz.f174) (ann := Q0A.ann k) (tin := Q0A.tin) (tout := Q0A.tout) (fun x K => Q0A.c k x.1 x.2.1 K) Tryz.func174 (by kernel_rfl) (by kernel_rfl) Q1.nil (Q0A.body k)
def Q12.c (k : Nat) {ρ : Type} (bits : Int) (K : (List Int) × Bool × Unit → Option ρ) : Option ρ :=
 let v0 : Int := (Q29 IntKind.u32 bits (24 : Int))
 let v1 : Int := (Q1d BinOp.and IntKind.u32 bits (8388607 : Int))
 (Q18 k (IntKind.wrap IntKind.u64 v1)).bind fun t2 => bif (decide ((IntKind.wrap IntKind.i64 v0) ≤ (3 : Int))) then (let v3 : (List Int) := t2.1
 let v4 : Int := (IntKind.wrap IntKind.i64 ((IntKind.wrap IntKind.i64 v0) - (3 : Int)))
 (Q0A k v3 v4).bind fun t5 => K (t5.1, (true, ()))) else (let v6 : (List Int) := t2.1
 (Q13 k v6).bind fun t7 => bif t7.1 then (let v8 : (List Int) := t2.1
 K (v8, (true, ()))) else (let v9 : (List Int) := t2.1
 (Q0q k v9).bind fun t10 => let v11 : Int := (IntKind.wrap IntKind.i64 ((IntKind.wrap IntKind.i64 v0) - (3 : Int)))
 let v12 : Int := (IntKind.wrap IntKind.i64 (v11 * (8 : Int)))
 let v13 : Int := (IntKind.wrap IntKind.i64 (t10.1 + v12))
 bif (decide (v13 > (256 : Int))) then (let v14 : (List Int) := (List.replicate 4 (0 : Int))
 K (v14, (false, ()))) else (let v15 : (List Int) := t2.1
 let v16 : Int := (IntKind.wrap IntKind.i64 ((IntKind.wrap IntKind.i64 v0) - (3 : Int)))
 (Q0A k v15 v16).bind fun t17 => K (t17.1, (true, ())))))
def Q12 (k : Nat) (bits : Int) : Option ((List Int) × Bool × Unit) := Q12.c k bits some
def Q12.tin : List Ty := [(.int .u32)]
def Q12.tout : List Ty := [QdV, .bool]
def Q12.sem (k : Nat) : Qr := QX Q12.tin Q12.tout fun x => Q12 k x.1
noncomputable def Q12.ctx (k : Nat) : Ctx := ⟨Tryz.prog, gam [(173, (Q18.sem k)), (174, (Q0A.sem k)), (168, (Q13.sem k)), (175, (Q0q.sem k))]⟩
theorem Q12.gok (k : Nat) : ∀ f, Qm Tryz.prog f ((Q12.ctx k).Γ f) := (Q8 (Q18.sem_ok k) (Q8 (Q0A.sem_ok k) (Q8 (Q13.sem_ok k) (Q8 (Q0q.sem_ok k) QK))))
def Q12.ann (k : Nat) : Ann := .nil
theorem Q12.body (k : Nat) : Q0Y (Q12.ctx k) Tryz.f167 (Func.code Tryz.f167) (Q12.ann k) Q12.tin Q12.tout (fun x K => Q12.c k x.1 K) := by
 intro ρ x K; kernel_rfl
theorem Q12.sem_ok (k : Nat) : Qm Tryz.prog 167 (Q12.sem k) :=
 QD (C := Q12.ctx k) (Q12.gok k) Tryz.mix (c := Func.code Tryz.f167) (ann := Q12.ann k) (tin := Q12.tin) (tout := Q12.tout) (fun x K => Q12.c k x.1 K) Tryz.func167 (by kernel_rfl) (by kernel_rfl) Q1.nil (Q12.body k)
def Q0Q.c (k : Nat) {ρ : Type}  (K : (List Int) × Unit → Option ρ) : Option ρ :=
 (Q12 k (545259519 : Int)).bind fun t0 => let v1 : (List Int) := t0.1
 K (v1, ())
def Q0Q (k : Nat)  : Option QdW := Q0Q.c k  some
def Q0Q.tin : List Ty := []
def Q0Q.tout : List Ty := [QdV]
def Q0Q.sem (k : Nat) : Qr := QX Q0Q.tin Q0Q.tout fun x => Q0Q k 
noncomputable def Q0Q.ctx (k : Nat) : Ctx := ⟨Tryz.prog, gam [(167, (Q12.sem k))]⟩
theorem Q0Q.gok (k : Nat) : ∀ f, Qm Tryz.prog f ((Q0Q.ctx k).Γ f) := (Q8 (Q12.sem_ok k) QK)
def Q0Q.ann (k : Nat) : Ann := .nil
theorem Q0Q.body (k : Nat) : Q0Y (Q0Q.ctx k) Tryz.f169 (Func.code Tryz.f169) (Q0Q.ann k) Q0Q.tin Q0Q.tout (fun x K => Q0Q.c k  K) := by
 intro ρ x K; kernel_rfl
theorem Q0Q.sem_ok (k : Nat) : Qm Tryz.prog 169 (Q0Q.sem k) :=
 QD (C := Q0Q.ctx k) (Q0Q.gok k) Tryz.mix (c := Func.code Tryz.f169) (ann := Q0Q.ann k) (tin := Q0Q.tin) (tout := Q0Q.tout) (fun x K => Q0Q.c k  K) Tryz.func169 (by kernel_rfl) (by kernel_rfl) Q1.nil (Q0Q.body k)
abbrev Q0.l0.σ : Type := (Nat × Nat) × Int × Int × (List Int) × Unit
abbrev Q0.l0.τ : Type := QdW 
def Q0.l0.r (k : Nat) {ρ : Type} (x : Q0.l0.σ) (kn : Q0.l0.σ → Option ρ) (ke : Q0.l0.τ → Option ρ) : Option ρ :=
 bif (decide (x.2.1 < x.2.2.1)) then (bif (decide (((0 : Int) ≤ x.2.2.1) ∧ (x.2.2.1 < ((x.1.2 : Nat) : Int)))) then (let v1 : Int := (List.getD x.2.2.2.1 (x.1.1 + (Int.toNat x.2.2.1)) (0 : Int))
 bif (decide (((0 : Int) ≤ x.2.1) ∧ (x.2.1 < ((x.1.2 : Nat) : Int)))) then (let v2 : Int := (List.getD x.2.2.2.1 (x.1.1 + (Int.toNat x.2.1)) (0 : Int))
 bif (decide (((0 : Int) ≤ x.2.1) ∧ (x.2.1 < ((x.1.2 : Nat) : Int)))) then (bif (decide (((0 : Int) ≤ x.2.2.1) ∧ (x.2.2.1 < ((x.1.2 : Nat) : Int)))) then (let v3 : Int := (IntKind.wrap IntKind.i64 (x.2.1 + (1 : Int)))
 let v4 : Int := (IntKind.wrap IntKind.i64 (x.2.2.1 - (1 : Int)))
 kn ((x.1.1, x.1.2), (v3, (v4, ((List.set (List.set x.2.2.2.1 (x.1.1 + (Int.toNat x.2.1)) v1) (x.1.1 + (Int.toNat x.2.2.1)) v2), ()))))) else (none)) else (none)) else (none)) else (none)) else (ke (x.2.2.2.1, ()))
def Q0.l0 (k : Nat) : Nat → Q0.l0.σ → Option Q0.l0.τ := Q1c (Q0.l0.r k)
def Q0.l0.T : StT := ⟨.slr 0 [] :: us 1 ++ .dat (.int .i64) :: .dat (.int .i64) :: us 24, [.dat QdV]⟩
def Q0.l0.os : List Out := [⟨(.exit 0), [.mask [], .auto 1], ⟨us 28, [.dat QdV]⟩⟩]
abbrev Q0.τ : Type := QdW 
def Q0.c (k : Nat) {ρ : Type} (s : (Nat × Nat)) (b0 : (List Int)) (K : Q0.τ → Option ρ) : Option ρ :=
 let v0 : Int := (IntKind.wrap IntKind.i64 (((s.2 : Nat) : Int) - (1 : Int)))
 (Q0.l0 k k ((s.1, s.2), ((0 : Int), (v0, (b0, ()))))).bind fun t5 => K (t5.1, ())
def Q0 (k : Nat) (s : (Nat × Nat)) (b0 : (List Int)) : Option Q0.τ := Q0.c k s b0 some
def Q0.T : Q1g := ⟨[.slr 0 []], [.dat QdV], 1⟩
def Q0.os : List Out := [⟨.ret, [.auto 1], ⟨[], [.dat QdV]⟩⟩]
def Q0.sem (k : Nat) : Qr := Q1j Q0.T Q0.os fun x => Q0 k x.1 x.2.1
noncomputable def Q0.ctx (k : Nat) : Ctx := ⟨Tryz.prog, gam []⟩
theorem Q0.gok (k : Nat) : ∀ f, Qm Tryz.prog f ((Q0.ctx k).Γ f) := QK
theorem Q0.l0.round (k : Nat) : Q1b (Q0.ctx k) (Q0y (Func.code Tryz.f170) [1, 0, 0]) (.nil) Q0.l0.T [.mask [0, 2, 3], .auto 1] Q0.l0.os (Q0.l0.r k) := by
 intro ρ x kn ke; kernel_rfl
theorem Q0.l0.ok (k : Nat) : StOK 1 Tryz.prog (.loop (Q0y (Func.code Tryz.f170) [1, 0, 0])) (QO Q0.l0.T Q0.l0.os (Q0.l0 k k)) :=
 Q1e (C := Q0.ctx k) (Q0.gok k) Tryz.mix Q1.nil (by kernel_rfl) (by kernel_rfl) (by kernel_rfl) (Q0.l0.round k) k
def Q0.ann (k : Nat) : Ann := .node [] none (.nil) (.node [] none (.node [.mask [0, 2, 3], .auto 1] (some (QO Q0.l0.T Q0.l0.os (Q0.l0 k k))) .nil .nil) (.nil))
theorem Q0.body (k : Nat) : Q1n (Q0.ctx k) Tryz.f170 (Func.code Tryz.f170) (Q0.ann k) Q0.T Q0.os (fun x K => Q0.c k x.1 x.2.1 K) := by
 intro ρ x K; kernel_rfl
theorem Q0.sem_ok (k : Nat) : Qm Tryz.prog 170 (Q0.sem k) :=
 Q0U (C := Q0.ctx k) (Q0.gok k) Tryz.mix (c := Func.code Tryz.f170) (ann := Q0.ann k) (T := Q0.T) (os := Q0.os) (fun x K => Q0.c k x.1 x.2.1 K) Tryz.func170 (by kernel_rfl) (by kernel_rfl) (Q1.seq Q1.nil (Q1.block (Q1.loop (by kernel_rfl) (Q0.l0.ok k)))) (Q0.body k) (by kernel_rfl) (by kernel_rfl) (by kernel_rfl)
def Q0m.c (k : Nat) {ρ : Type} (x_0 : Int) (K : Bool × Unit → Option ρ) : Option ρ :=
 K ((x_0 != x_0), ())
def Q0m (k : Nat) (x_0 : Int) : Option (Bool × Unit) := Q0m.c k x_0 some
def Q0m.tin : List Ty := [(.int .u64)]
def Q0m.tout : List Ty := [.bool]
def Q0m.sem (k : Nat) : Qr := QX Q0m.tin Q0m.tout fun x => Q0m k x.1
noncomputable def Q0m.ctx (k : Nat) : Ctx := ⟨Tryz.prog, gam []⟩
theorem Q0m.gok (k : Nat) : ∀ f, Qm Tryz.prog f ((Q0m.ctx k).Γ f) := QK
def Q0m.ann (k : Nat) : Ann := .nil
theorem Q0m.body (k : Nat) : Q0Y (Q0m.ctx k) Tryz.f180 (Func.code Tryz.f180) (Q0m.ann k) Q0m.tin Q0m.tout (fun x K => Q0m.c k x.1 K) := by
 intro ρ x K; kernel_rfl
theorem Q0m.sem_ok (k : Nat) : Qm Tryz.prog 180 (Q0m.sem k) :=
 QD (C := Q0m.ctx k) (Q0m.gok k) Tryz.mix (c := Func.code Tryz.f180) (ann := Q0m.ann k) (tin := Q0m.tin) (tout := Q0m.tout) (fun x K => Q0m.c k x.1 K) Tryz.func180 (by kernel_rfl) (by kernel_rfl) Q1.nil (Q0m.body k)
def Q06.c (k : Nat) {ρ : Type} (x_0 : Int) (y : Int) (K : Int × Unit → Option ρ) : Option ρ :=
 (Q0m k x_0).bind fun t0 => (Q0m k y).bind fun t1 => bif t0.1 then (bif t1.1 then (K ((0 : Int), ())) else (K ((-(1 : Int)), ()))) else (bif t1.1 then (K ((1 : Int), ())) else (bif (decide (x_0 < y)) then (K ((-(1 : Int)), ())) else (bif (decide (x_0 > y)) then (K ((1 : Int), ())) else (K ((0 : Int), ())))))
def Q06 (k : Nat) (x_0 : Int) (y : Int) : Option (Int × Unit) := Q06.c k x_0 y some
def Q06.tin : List Ty := [(.int .u64), (.int .u64)]
def Q06.tout : List Ty := [(.int .i64)]
def Q06.sem (k : Nat) : Qr := QX Q06.tin Q06.tout fun x => Q06 k x.1 x.2.1
noncomputable def Q06.ctx (k : Nat) : Ctx := ⟨Tryz.prog, gam [(180, (Q0m.sem k))]⟩
theorem Q06.gok (k : Nat) : ∀ f, Qm Tryz.prog f ((Q06.ctx k).Γ f) := (Q8 (Q0m.sem_ok k) QK)
def Q06.ann (k : Nat) : Ann := .nil
theorem Q06.body (k : Nat) : Q0Y (Q06.ctx k) Tryz.f176 (Func.code Tryz.f176) (Q06.ann k) Q06.tin Q06.tout (fun x K => Q06.c k x.1 x.2.1 K) := by
 intro ρ x K; kernel_rfl
theorem Q06.sem_ok (k : Nat) : Qm Tryz.prog 176 (Q06.sem k) :=
 QD (C := Q06.ctx k) (Q06.gok k) Tryz.mix (c := Func.code Tryz.f176) (ann := Q06.ann k) (tin := Q06.tin) (tout := Q06.tout) (fun x K => Q06.c k x.1 x.2.1 K) Tryz.func176 (by kernel_rfl) (by kernel_rfl) Q1.nil (Q06.body k)
abbrev Q2.l0.σ : Type := (List Int) × (List Int) × (List Int) × Int × Int × Unit
abbrev Q2.l0.τ : Type := (Int × Unit) ⊕ ((List Int) × (List Int) × Unit)
def Q2.l0.r (k : Nat) {ρ : Type} (x : Q2.l0.σ) (kn : Q2.l0.σ → Option ρ) (ke : Q2.l0.τ → Option ρ) : Option ρ :=
 bif (decide (x.2.2.2.2.1 < x.2.2.2.1)) then (bif (decide (((0 : Int) ≤ x.2.2.2.2.1) ∧ (x.2.2.2.2.1 < (((List.length x.2.2.1) : Nat) : Int)))) then (let v1 : Int := (List.getD x.2.2.1 (Int.toNat x.2.2.2.2.1) (0 : Int))
 let v2 : Int := (((List.length x.2.1) : Nat) : Int)
 bif (decide (x.2.2.2.2.1 ≥ v2)) then (ke (.inl ((1 : Int), ()))) else (bif (decide (((0 : Int) ≤ x.2.2.2.2.1) ∧ (x.2.2.2.2.1 < (((List.length x.2.1) : Nat) : Int)))) then (let v3 : Int := (List.getD x.2.1 (Int.toNat x.2.2.2.2.1) (0 : Int))
 (Q06 k v1 v3).bind fun t4 => bif (t4.1 != (0 : Int)) then (ke (.inl (t4.1, ()))) else (let v5 : Int := (IntKind.wrap IntKind.i64 (x.2.2.2.2.1 + (1 : Int)))
 kn (x.1, (x.2.1, (x.2.2.1, (x.2.2.2.1, (v5, ()))))))) else (none))) else (none)) else (ke (.inr (x.1, (x.2.1, ()))))
def Q2.l0 (k : Nat) : Nat → Q2.l0.σ → Option Q2.l0.τ := Q1c (Q2.l0.r k)
def Q2.l0.T : StT := ⟨.dat QdX :: .dat QdX :: us 7 ++ .dat QdX :: .dat (.int .i64) :: .dat (.int .i64) :: us 24, []⟩
def Q2.l0.os : List Out := [⟨.ret, [.mask [4], .auto 0], ⟨us 4 ++ .dat (.int .i64) :: us 31, []⟩⟩, ⟨(.exit 0), [.mask [0, 1], .auto 0], ⟨.dat QdX :: .dat QdX :: us 34, []⟩⟩]
def Q2.c (k : Nat) {ρ : Type} (s1 : (List Int)) (s2 : (List Int)) (K : Int × Unit → Option ρ) : Option ρ :=
  let v0 : Int := (((List.length s1) : Nat) : Int)
  (Q2.l0 k k (s1, (s2, (s1, (v0, ((0 : Int), ())))))).bind fun t6 => (match t6 with
 | .inl t7 => (K (t7.1, ()))
 | .inr (t8) => (let v9 : Int := (((List.length t8.1) : Nat) : Int)
  let v10 : Int := (((List.length t8.2.1) : Nat) : Int)
  bif (decide (v9 < v10)) then (K ((-(1 : Int)), ())) else (K ((0 : Int), ()))))
def Q2 (k : Nat) (s1 : (List Int)) (s2 : (List Int)) : Option (Int × Unit) := Q2.c k s1 s2 some
def Q2.tin : List Ty := [QdX, QdX]
def Q2.tout : List Ty := [(.int .i64)]
def Q2.sem (k : Nat) : Qr := QX Q2.tin Q2.tout fun x => Q2 k x.1 x.2.1
noncomputable def Q2.ctx (k : Nat) : Ctx := ⟨Tryz.prog, gam [(176, (Q06.sem k))]⟩
theorem Q2.gok (k : Nat) : ∀ f, Qm Tryz.prog f ((Q2.ctx k).Γ f) := (Q8 (Q06.sem_ok k) QK)
theorem Q2.l0.round (k : Nat) : Q1b (Q2.ctx k) (Q0y (Func.code Tryz.f171) [1, 0, 1, 0, 0]) (.nil) Q2.l0.T [.mask [0, 1, 9, 10, 11], .auto 0] Q2.l0.os (Q2.l0.r k) := by
 intro ρ x kn ke; kernel_rfl
theorem Q2.l0.ok (k : Nat) : StOK 0 Tryz.prog (.loop (Q0y (Func.code Tryz.f171) [1, 0, 1, 0, 0])) (QO Q2.l0.T Q2.l0.os (Q2.l0 k k)) :=
 Q1e (C := Q2.ctx k) (Q2.gok k) Tryz.mix Q1.nil (by kernel_rfl) (by kernel_rfl) (by kernel_rfl) (Q2.l0.round k) k
def Q2.ann (k : Nat) : Ann := .node [] none (.nil) (.node [] none (.node [] none (.nil) (.node [] none (.node [] (some (QO Q2.l0.T Q2.l0.os (Q2.l0 k k))) .nil .nil) (.nil))) (.nil))
theorem Q2.body (k : Nat) : Q0Y (Q2.ctx k) Tryz.f171 (Func.code Tryz.f171) (Q2.ann k) Q2.tin Q2.tout (fun x K => Q2.c k x.1 x.2.1 K) := by
 intro ρ x K; kernel_rfl
theorem Q2.sem_ok (k : Nat) : Qm Tryz.prog 171 (Q2.sem k) :=
 QD (C := Q2.ctx k) (Q2.gok k) Tryz.mix (c := Func.code Tryz.f171) (ann := Q2.ann k) (tin := Q2.tin) (tout := Q2.tout) (fun x K => Q2.c k x.1 x.2.1 K) Tryz.func171 (by kernel_rfl) (by kernel_rfl) (Q1.seq Q1.nil (Q1.seq (Q1.seq Q1.nil (Q1.block (Q1.loop (by kernel_rfl) (Q2.l0.ok k)))) Q1.nil)) (Q2.body k)
def Q0J.c (k : Nat) {ρ : Type} (a : (List Int)) (b : (List Int)) (K : Int × Unit → Option ρ) : Option ρ :=
 (Q0 k (0, 4) a).bind fun t0 => (Q0 k (0, 4) b).bind fun t1 => (Q2 k (List.take 4 (List.drop 0 t0.1)) (List.take 4 (List.drop 0 t1.1))).bind fun t2 => K (t2.1, ())
def Q0J (k : Nat) (a : (List Int)) (b : (List Int)) : Option (Int × Unit) := Q0J.c k a b some
def Q0J.tin : List Ty := [QdV, QdV]
def Q0J.tout : List Ty := [(.int .i64)]
def Q0J.sem (k : Nat) : Qr := QX Q0J.tin Q0J.tout fun x => Q0J k x.1 x.2.1
noncomputable def Q0J.ctx (k : Nat) : Ctx := ⟨Tryz.prog, gam [(170, (Q0.sem k)), (171, (Q2.sem k))]⟩
theorem Q0J.gok (k : Nat) : ∀ f, Qm Tryz.prog f ((Q0J.ctx k).Γ f) := (Q8 (Q0.sem_ok k) (Q8 (Q2.sem_ok k) QK))
def Q0J.ann (k : Nat) : Ann := .nil
theorem Q0J.body (k : Nat) : Q0Y (Q0J.ctx k) Tryz.f161 (Func.code Tryz.f161) (Q0J.ann k) Q0J.tin Q0J.tout (fun x K => Q0J.c k x.1 x.2.1 K) := by
 intro ρ x K; kernel_rfl
theorem Q0J.sem_ok (k : Nat) : Qm Tryz.prog 161 (Q0J.sem k) :=
 QD (C := Q0J.ctx k) (Q0J.gok k) Tryz.mix (c := Func.code Tryz.f161) (ann := Q0J.ann k) (tin := Q0J.tin) (tout := Q0J.tout) (fun x K => Q0J.c k x.1 x.2.1 K) Tryz.func161 (by kernel_rfl) (by kernel_rfl) Q1.nil (Q0J.body k)
def Q0I.c (k : Nat) {ρ : Type} (bits : Int) (K : (List Int) × Int × Unit → Option ρ) : Option ρ :=
 (Q12 k bits).bind fun t0 => let v1 : (List Int) := t0.1
 bif (!t0.2.1) then (let v2 : (List Int) := (List.replicate 4 (0 : Int))
 K (v2, ((50 : Int), ()))) else (let v3 : Int := (Q1d BinOp.and IntKind.u32 bits (8388608 : Int))
 bif (v3 != (0 : Int)) then (let v4 : (List Int) := (List.replicate 4 (0 : Int))
 K (v4, ((50 : Int), ()))) else ((Q13 k v1).bind fun t5 => bif t5.1 then (let v6 : (List Int) := (List.replicate 4 (0 : Int))
 K (v6, ((50 : Int), ()))) else ((Q0Q k ).bind fun t7 => (Q0J k v1 t7.1).bind fun t8 => bif (decide (t8.1 > (0 : Int))) then (let v9 : (List Int) := (List.replicate 4 (0 : Int))
 K (v9, ((50 : Int), ()))) else (K (v1, ((0 : Int), ()))))))
def Q0I (k : Nat) (bits : Int) : Option ((List Int) × Int × Unit) := Q0I.c k bits some
def Q0I.tin : List Ty := [(.int .u32)]
def Q0I.tout : List Ty := [QdV, (.int .i64)]
def Q0I.sem (k : Nat) : Qr := QX Q0I.tin Q0I.tout fun x => Q0I k x.1
noncomputable def Q0I.ctx (k : Nat) : Ctx := ⟨Tryz.prog, gam [(167, (Q12.sem k)), (168, (Q13.sem k)), (169, (Q0Q.sem k)), (161, (Q0J.sem k))]⟩
theorem Q0I.gok (k : Nat) : ∀ f, Qm Tryz.prog f ((Q0I.ctx k).Γ f) := (Q8 (Q12.sem_ok k) (Q8 (Q13.sem_ok k) (Q8 (Q0Q.sem_ok k) (Q8 (Q0J.sem_ok k) QK))))
def Q0I.ann (k : Nat) : Ann := .nil
theorem Q0I.body (k : Nat) : Q0Y (Q0I.ctx k) Tryz.f160 (Func.code Tryz.f160) (Q0I.ann k) Q0I.tin Q0I.tout (fun x K => Q0I.c k x.1 K) := by
 intro ρ x K; kernel_rfl
theorem Q0I.sem_ok (k : Nat) : Qm Tryz.prog 160 (Q0I.sem k) :=
 QD (C := Q0I.ctx k) (Q0I.gok k) Tryz.mix (c := Func.code Tryz.f160) (ann := Q0I.ann k) (tin := Q0I.tin) (tout := Q0I.tout) (fun x K => Q0I.c k x.1 K) Tryz.func160 (by kernel_rfl) (by kernel_rfl) Q1.nil (Q0I.body k)
abbrev Q0V.l0.σ : Type := (List Int) × Int × (List Int) × (List Int) × Unit
abbrev Q0V.l0.τ : Type := ((List Int) × (List Int) × Unit)
def Q0V.l0.r (k : Nat) {ρ : Type} (x : Q0V.l0.σ) (kn : Q0V.l0.σ → Option ρ) (ke : Q0V.l0.τ → Option ρ) : Option ρ :=
 bif (decide (x.2.1 < (32 : Int))) then (bif (decide (((0 : Int) ≤ x.2.1) ∧ (x.2.1 < ((32 : Nat) : Int)))) then (let v0 : Int := (List.getD x.1 (Int.toNat x.2.1) (0 : Int))
 let v1 : Int := (IntKind.wrap IntKind.i64 (Int.tdiv x.2.1 (8 : Int)))
 bif (decide (((0 : Int) ≤ v1) ∧ (v1 < ((4 : Nat) : Int)))) then (let v2 : Int := (List.getD x.2.2.2.1 (Int.toNat v1) (0 : Int))
 let v3 : Int := (Int.tmod x.2.1 (8 : Int))
 let v4 : Int := (IntKind.wrap IntKind.i64 ((8 : Int) * v3))
 bif (decide ((0 : Int) ≤ v4)) then (let v5 : Int := (Q1d BinOp.or IntKind.u64 v2 (Q30 IntKind.u64 (IntKind.wrap IntKind.u64 v0) v4))
 bif (decide (((0 : Int) ≤ v1) ∧ (v1 < ((4 : Nat) : Int)))) then (let v6 : Int := (IntKind.wrap IntKind.i64 (x.2.1 + (1 : Int)))
 kn (x.1, (v6, (x.2.2.1, ((List.set x.2.2.2.1 (Int.toNat v1) v5), ()))))) else (none)) else (none)) else (none)) else (none)) else (ke (x.2.2.1, (x.2.2.2.1, ())))
def Q0V.l0 (k : Nat) : Nat → Q0V.l0.σ → Option Q0V.l0.τ := Q1c (Q0V.l0.r k)
def Q0V.l0.T : StT := ⟨us 2 ++ .ptr 0 [] :: .ptr 1 [] :: us 2 ++ .dat QdU :: .dat (.int .i64) :: us 17, [.dat QdV, .dat QdV]⟩
def Q0V.l0.os : List Out := [⟨(.exit 0), [.mask [2, 3], .auto 0], ⟨us 2 ++ .ptr 0 [] :: .ptr 1 [] :: us 21, [.dat QdV, .dat QdV]⟩⟩]
def Q0V.c (k : Nat) {ρ : Type} (h : (List Int)) (K : (List Int) × Unit → Option ρ) : Option ρ :=
 (Q0V.l0 k k (h, ((0 : Int), ((List.replicate 4 (0 : Int)), ((List.replicate 4 (0 : Int)), ()))))).bind fun t7 => let v8 : (List Int) := t7.2.1
 K (v8, ())
def Q0V (k : Nat) (h : (List Int)) : Option QdW := Q0V.c k h some
def Q0V.tin : List Ty := [QdU]
def Q0V.tout : List Ty := [QdV]
def Q0V.sem (k : Nat) : Qr := QX Q0V.tin Q0V.tout fun x => Q0V k x.1
noncomputable def Q0V.ctx (k : Nat) : Ctx := ⟨Tryz.prog, gam []⟩
theorem Q0V.gok (k : Nat) : ∀ f, Qm Tryz.prog f ((Q0V.ctx k).Γ f) := QK
theorem Q0V.l0.round (k : Nat) : Q1b (Q0V.ctx k) (Q0y (Func.code Tryz.f162) [1, 1, 0, 1, 0, 0]) (.nil) Q0V.l0.T [.mask [2, 3, 6, 7], .auto 0] Q0V.l0.os (Q0V.l0.r k) := by
 intro ρ x kn ke; kernel_rfl
theorem Q0V.l0.ok (k : Nat) : StOK 0 Tryz.prog (.loop (Q0y (Func.code Tryz.f162) [1, 1, 0, 1, 0, 0])) (QO Q0V.l0.T Q0V.l0.os (Q0V.l0 k k)) :=
 Q1e (C := Q0V.ctx k) (Q0V.gok k) Tryz.mix Q1.nil (by kernel_rfl) (by kernel_rfl) (by kernel_rfl) (Q0V.l0.round k) k
def Q0V.ann (k : Nat) : Ann := .node [] none (.nil) (.node [] none (.nil) (.node [] none (.node [] none (.nil) (.node [] none (.node [.mask [2, 3, 6, 7], .auto 0] (some (QO Q0V.l0.T Q0V.l0.os (Q0V.l0 k k))) .nil .nil) (.nil))) (.nil)))
theorem Q0V.body (k : Nat) : Q0Y (Q0V.ctx k) Tryz.f162 (Func.code Tryz.f162) (Q0V.ann k) Q0V.tin Q0V.tout (fun x K => Q0V.c k x.1 K) := by
 intro ρ x K; kernel_rfl
theorem Q0V.sem_ok (k : Nat) : Qm Tryz.prog 162 (Q0V.sem k) :=
 QD (C := Q0V.ctx k) (Q0V.gok k) Tryz.mix (c := Func.code Tryz.f162) (ann := Q0V.ann k) (tin := Q0V.tin) (tout := Q0V.tout) (fun x K => Q0V.c k x.1 K) Tryz.func162 (by kernel_rfl) (by kernel_rfl) (Q1.seq Q1.nil (Q1.seq Q1.nil (Q1.seq (Q1.seq Q1.nil (Q1.block (Q1.loop (by kernel_rfl) (Q0V.l0.ok k)))) Q1.nil))) (Q0V.body k)
def Q0R.c (k : Nat) {ρ : Type} (id : (List Int)) (bits : Int) (K : Bool × Unit → Option ρ) : Option ρ :=
 (Q0I k bits).bind fun t0 => let v1 : (List Int) := t0.1
 let v2 : Int := t0.2.1
 bif (v2 == (0 : Int)) then ((Q0V k id).bind fun t3 => (Q0J k t3.1 v1).bind fun t4 => K ((decide (t4.1 ≤ (0 : Int))), ())) else (K (false, ()))
def Q0R (k : Nat) (id : (List Int)) (bits : Int) : Option (Bool × Unit) := Q0R.c k id bits some
def Q0R.tin : List Ty := [QdU, (.int .u32)]
def Q0R.tout : List Ty := [.bool]
def Q0R.sem (k : Nat) : Qr := QX Q0R.tin Q0R.tout fun x => Q0R k x.1 x.2.1
noncomputable def Q0R.ctx (k : Nat) : Ctx := ⟨Tryz.prog, gam [(160, (Q0I.sem k)), (162, (Q0V.sem k)), (161, (Q0J.sem k))]⟩
theorem Q0R.gok (k : Nat) : ∀ f, Qm Tryz.prog f ((Q0R.ctx k).Γ f) := (Q8 (Q0I.sem_ok k) (Q8 (Q0V.sem_ok k) (Q8 (Q0J.sem_ok k) QK)))
def Q0R.ann (k : Nat) : Ann := .nil
theorem Q0R.body (k : Nat) : Q0Y (Q0R.ctx k) Tryz.f149 (Func.code Tryz.f149) (Q0R.ann k) Q0R.tin Q0R.tout (fun x K => Q0R.c k x.1 x.2.1 K) := by
 intro ρ x K; kernel_rfl
theorem Q0R.sem_ok (k : Nat) : Qm Tryz.prog 149 (Q0R.sem k) :=
 QD (C := Q0R.ctx k) (Q0R.gok k) Tryz.mix (c := Func.code Tryz.f149) (ann := Q0R.ann k) (tin := Q0R.tin) (tout := Q0R.tout) (fun x K => Q0R.c k x.1 x.2.1 K) Tryz.func149 (by kernel_rfl) (by kernel_rfl) Q1.nil (Q0R.body k)
def Q10.c (k : Nat) {ρ : Type} (h : QdK) (K : Bool × Unit → Option ρ) : Option ρ :=
 (Q0O k (h.1, (h.2.1, (h.2.2.1, (h.2.2.2.1, (h.2.2.2.2.1, (h.2.2.2.2.2.1, ()))))))).bind fun t0 => let v1 : Int := h.2.2.2.2.1
 (Q0R k t0.1 v1).bind fun t2 => K (t2.1, ())
def Q10 (k : Nat) (h : QdK) : Option (Bool × Unit) := Q10.c k h some
def Q10.tin : List Ty := [QdE]
def Q10.tout : List Ty := [.bool]
def Q10.sem (k : Nat) : Qr := QX Q10.tin Q10.tout fun x => Q10 k x.1
noncomputable def Q10.ctx (k : Nat) : Ctx := ⟨Tryz.prog, gam [(46, (Q0O.sem k)), (149, (Q0R.sem k))]⟩
theorem Q10.gok (k : Nat) : ∀ f, Qm Tryz.prog f ((Q10.ctx k).Γ f) := (Q8 (Q0O.sem_ok k) (Q8 (Q0R.sem_ok k) QK))
def Q10.ann (k : Nat) : Ann := .nil
theorem Q10.body (k : Nat) : Q0Y (Q10.ctx k) Tryz.f135 (Func.code Tryz.f135) (Q10.ann k) Q10.tin Q10.tout (fun x K => Q10.c k x.1 K) := by
 intro ρ x K; kernel_rfl
theorem Q10.sem_ok (k : Nat) : Qm Tryz.prog 135 (Q10.sem k) :=
 QD (C := Q10.ctx k) (Q10.gok k) Tryz.mix (c := Func.code Tryz.f135) (ann := Q10.ann k) (tin := Q10.tin) (tout := Q10.tout) (fun x K => Q10.c k x.1 K) Tryz.func135 (by kernel_rfl) (by kernel_rfl) Q1.nil (Q10.body k)
abbrev Q08.l0.σ : Type := Int × Int × QdK × QdK × QdK × Unit
abbrev Q08.l0.τ : Type := (Bool × QdK × Unit) ⊕ (QdK × QdK × Unit)
def Q08.l0.r (k : Nat) {ρ : Type} (x : Q08.l0.σ) (kn : Q08.l0.σ → Option ρ) (ke : Q08.l0.τ → Option ρ) : Option ρ :=
 bif (decide (x.2.1 < x.1)) then ((Q10 k (x.2.2.2.2.1.1, (x.2.2.2.2.1.2.1, (x.2.2.2.2.1.2.2.1, (x.2.2.2.2.1.2.2.2.1, (x.2.2.2.2.1.2.2.2.2.1, (x.2.2.2.2.1.2.2.2.2.2.1, ()))))))).bind fun t1 => bif t1.1 then (ke (.inl (true, ((x.2.2.2.2.1.1, (x.2.2.2.2.1.2.1, (x.2.2.2.2.1.2.2.1, (x.2.2.2.2.1.2.2.2.1, (x.2.2.2.2.1.2.2.2.2.1, (x.2.2.2.2.1.2.2.2.2.2.1, ())))))), ())))) else (let v2 : Int := x.2.2.2.2.1.2.2.2.2.2.1
 bif (v2 == (4294967295 : Int)) then (ke (.inr ((x.2.2.1.1, (x.2.2.1.2.1, (x.2.2.1.2.2.1, (x.2.2.1.2.2.2.1, (x.2.2.1.2.2.2.2.1, (x.2.2.1.2.2.2.2.2.1, ())))))), ((x.2.2.2.1.1, (x.2.2.2.1.2.1, (x.2.2.2.1.2.2.1, (x.2.2.2.1.2.2.2.1, (x.2.2.2.1.2.2.2.2.1, (x.2.2.2.1.2.2.2.2.2.1, ())))))), ())))) else (let v3 : Int := x.2.2.2.2.1.2.2.2.2.2.1
 let v4 : Int := (IntKind.wrap IntKind.u32 (v3 + (1 : Int)))
 let v5 : Int := (IntKind.wrap IntKind.u64 (x.2.1 + (1 : Int)))
 kn (x.1, (v5, ((x.2.2.1.1, (x.2.2.1.2.1, (x.2.2.1.2.2.1, (x.2.2.1.2.2.2.1, (x.2.2.1.2.2.2.2.1, (x.2.2.1.2.2.2.2.2.1, ())))))), ((x.2.2.2.1.1, (x.2.2.2.1.2.1, (x.2.2.2.1.2.2.1, (x.2.2.2.1.2.2.2.1, (x.2.2.2.1.2.2.2.2.1, (x.2.2.2.1.2.2.2.2.2.1, ())))))), ((x.2.2.2.2.1.1, (x.2.2.2.2.1.2.1, (x.2.2.2.2.1.2.2.1, (x.2.2.2.2.1.2.2.2.1, (x.2.2.2.2.1.2.2.2.2.1, (v4, ())))))), ())))))))) else (ke (.inr ((x.2.2.1.1, (x.2.2.1.2.1, (x.2.2.1.2.2.1, (x.2.2.1.2.2.2.1, (x.2.2.1.2.2.2.2.1, (x.2.2.1.2.2.2.2.2.1, ())))))), ((x.2.2.2.1.1, (x.2.2.2.1.2.1, (x.2.2.2.1.2.2.1, (x.2.2.2.1.2.2.2.1, (x.2.2.2.1.2.2.2.2.1, (x.2.2.2.1.2.2.2.2.2.1, ())))))), ()))))
def Q08.l0 (k : Nat) : Nat → Q08.l0.σ → Option Q08.l0.τ := Q1c (Q08.l0.r k)
def Q08.l0.T : StT := ⟨us 2 ++ .ptr 0 [] :: us 1 ++ .ptr 1 [] :: us 1 ++ .ptr 2 [] :: us 2 ++ .dat (.int .u64) :: .dat (.int .u64) :: us 13, [.dat QdE, .dat QdE, .dat QdE]⟩
def Q08.l0.os : List Out := [⟨.ret, [.mask [4, 5], .auto 0], ⟨us 4 ++ .ptr 0 [] :: .dat .bool :: us 18, [.dat QdE]⟩⟩, ⟨(.exit 0), [.mask [2, 4], .auto 0], ⟨us 2 ++ .ptr 0 [] :: us 1 ++ .ptr 1 [] :: us 19, [.dat QdE, .dat QdE]⟩⟩]
def Q08.c (k : Nat) {ρ : Type} (h : QdK) (tries : Int) (K : QdK × Bool × Unit → Option ρ) : Option ρ :=
  let v0 : Int := (if ((4294967296 : Int) < tries) then (4294967296 : Int) else tries)
  (Q08.l0 k k (v0, ((0 : Int), ((h.1, (h.2.1, (h.2.2.1, (h.2.2.2.1, (h.2.2.2.2.1, (h.2.2.2.2.2.1, ())))))), (((0 : Int), ((List.replicate 32 (0 : Int)), ((List.replicate 32 (0 : Int)), ((0 : Int), ((0 : Int), ((0 : Int), ())))))), ((h.1, (h.2.1, (h.2.2.1, (h.2.2.2.1, (h.2.2.2.2.1, (h.2.2.2.2.2.1, ())))))), ())))))).bind fun t6 => (match t6 with
 | .inl t7 => (K ((t7.2.1.1, (t7.2.1.2.1, (t7.2.1.2.2.1, (t7.2.1.2.2.2.1, (t7.2.1.2.2.2.2.1, (t7.2.1.2.2.2.2.2.1, ())))))), (t7.1, ())))
 | .inr (t8) => (K ((t8.1.1, (t8.1.2.1, (t8.1.2.2.1, (t8.1.2.2.2.1, (t8.1.2.2.2.2.1, (t8.1.2.2.2.2.2.1, ())))))), (false, ()))))
def Q08 (k : Nat) (h : QdK) (tries : Int) : Option (QdK × Bool × Unit) := Q08.c k h tries some
def Q08.tin : List Ty := [QdE, (.int .u64)]
def Q08.tout : List Ty := [QdE, .bool]
def Q08.sem (k : Nat) : Qr := QX Q08.tin Q08.tout fun x => Q08 k x.1 x.2.1
noncomputable def Q08.ctx (k : Nat) : Ctx := ⟨Tryz.prog, gam [(135, (Q10.sem k))]⟩
theorem Q08.gok (k : Nat) : ∀ f, Qm Tryz.prog f ((Q08.ctx k).Γ f) := (Q8 (Q10.sem_ok k) QK)
theorem Q08.l0.round (k : Nat) : Q1b (Q08.ctx k) (Q0y (Func.code Tryz.f117) [1, 1, 0, 1, 0, 0]) (.nil) Q08.l0.T [.mask [2, 4, 6, 9, 10], .auto 0] Q08.l0.os (Q08.l0.r k) := by
 intro ρ x kn ke; kernel_rfl
theorem Q08.l0.ok (k : Nat) : StOK 0 Tryz.prog (.loop (Q0y (Func.code Tryz.f117) [1, 1, 0, 1, 0, 0])) (QO Q08.l0.T Q08.l0.os (Q08.l0 k k)) :=
 Q1e (C := Q08.ctx k) (Q08.gok k) Tryz.mix Q1.nil (by kernel_rfl) (by kernel_rfl) (by kernel_rfl) (Q08.l0.round k) k
def Q08.ann (k : Nat) : Ann := .node [] none (.nil) (.node [] none (.nil) (.node [] none (.node [] none (.nil) (.node [] none (.node [.mask [2, 4, 6, 9, 10], .auto 0] (some (QO Q08.l0.T Q08.l0.os (Q08.l0 k k))) .nil .nil) (.nil))) (.nil)))
theorem Q08.body (k : Nat) : Q0Y (Q08.ctx k) Tryz.f117 (Func.code Tryz.f117) (Q08.ann k) Q08.tin Q08.tout (fun x K => Q08.c k x.1 x.2.1 K) := by
 intro ρ x K; kernel_rfl
theorem Q08.sem_ok (k : Nat) : Qm Tryz.prog 117 (Q08.sem k) :=
 QD (C := Q08.ctx k) (Q08.gok k) Tryz.mix (c := Func.code Tryz.f117) (ann := Q08.ann k) (tin := Q08.tin) (tout := Q08.tout) (fun x K => Q08.c k x.1 x.2.1 K) Tryz.func117 (by kernel_rfl) (by kernel_rfl) (Q1.seq Q1.nil (Q1.seq Q1.nil (Q1.seq (Q1.seq Q1.nil (Q1.block (Q1.loop (by kernel_rfl) (Q08.l0.ok k)))) Q1.nil))) (Q08.body k)
abbrev QU.l0.σ : Type := QdG × Int × Int × QdJ × QdJ × QdG × Unit
abbrev QU.l0.τ : Type := (QdJ × QdJ × QdG × Unit)
def QU.l0.r (k : Nat) {ρ : Type} (x : QU.l0.σ) (kn : QU.l0.σ → Option ρ) (ke : QU.l0.τ → Option ρ) : Option ρ :=
 bif (decide (x.2.2.1 < x.2.1)) then (bif (decide (((0 : Int) ≤ x.2.2.1) ∧ (x.2.2.1 < (((List.length x.1) : Nat) : Int)))) then ((Q0P k ((List.getD x.1 (Int.toNat x.2.2.1) ((0 : Int), ([], ([], ((0 : Int), ()))))).1, ((List.getD x.1 (Int.toNat x.2.2.1) ((0 : Int), ([], ([], ((0 : Int), ()))))).2.1, ((List.getD x.1 (Int.toNat x.2.2.1) ((0 : Int), ([], ([], ((0 : Int), ()))))).2.2.1, ((List.getD x.1 (Int.toNat x.2.2.1) ((0 : Int), ([], ([], ((0 : Int), ()))))).2.2.2.1, ()))))).bind fun t3 => bif (Nat.ble (((List.length x.2.2.2.2.2.1) + (List.length (List.set (List.replicate 1 ((0 : Int), ([], ([], ((0 : Int), ()))))) 0 (t3.1.1, (t3.1.2.1, (t3.1.2.2.1, (t3.1.2.2.2.1, ()))))))) * 64) 140737488355328) then (let v4 : Int := (IntKind.wrap IntKind.i64 (x.2.2.1 + (1 : Int)))
 kn (x.1, (x.2.1, (v4, (((x.2.2.2.1.1.1, (x.2.2.2.1.1.2.1, (x.2.2.2.1.1.2.2.1, (x.2.2.2.1.1.2.2.2.1, (x.2.2.2.1.1.2.2.2.2.1, (x.2.2.2.1.1.2.2.2.2.2.1, ())))))), ((), ())), (((x.2.2.2.2.1.1.1, (x.2.2.2.2.1.1.2.1, (x.2.2.2.2.1.1.2.2.1, (x.2.2.2.2.1.1.2.2.2.1, (x.2.2.2.2.1.1.2.2.2.2.1, (x.2.2.2.2.1.1.2.2.2.2.2.1, ())))))), ((), ())), ((x.2.2.2.2.2.1 ++ (List.set (List.replicate 1 ((0 : Int), ([], ([], ((0 : Int), ()))))) 0 (t3.1.1, (t3.1.2.1, (t3.1.2.2.1, (t3.1.2.2.2.1, ())))))), ()))))))) else (none)) else (none)) else (ke (((x.2.2.2.1.1.1, (x.2.2.2.1.1.2.1, (x.2.2.2.1.1.2.2.1, (x.2.2.2.1.1.2.2.2.1, (x.2.2.2.1.1.2.2.2.2.1, (x.2.2.2.1.1.2.2.2.2.2.1, ())))))), ((), ())), (((x.2.2.2.2.1.1.1, (x.2.2.2.2.1.1.2.1, (x.2.2.2.2.1.1.2.2.1, (x.2.2.2.2.1.1.2.2.2.1, (x.2.2.2.2.1.1.2.2.2.2.1, (x.2.2.2.2.1.1.2.2.2.2.2.1, ())))))), ((), ())), (x.2.2.2.2.2.1, ()))))
def QU.l0 (k : Nat) : Nat → QU.l0.σ → Option QU.l0.τ := Q1c (QU.l0.r k)
def QU.l0.T : StT := ⟨us 8 ++ .ptr 0 [] :: us 3 ++ .ptr 1 [] :: us 17 ++ .dat QdA :: .dat (.int .i64) :: .dat (.int .i64) :: us 32, [.pair (.dat QdE) (.pair (.nils) (.dat .unit)), .pair (.dat QdE) (.pair (.vsl 2) (.dat .unit)), .vec QdC]⟩
def QU.l0.os : List Out := [⟨(.exit 0), [.mask [8, 12], .auto 0], ⟨us 8 ++ .ptr 0 [] :: us 3 ++ .ptr 1 [] :: us 52, [.pair (.dat QdE) (.pair (.nils) (.dat .unit)), .pair (.dat QdE) (.pair (.vsl 2) (.dat .unit)), .vec QdC]⟩⟩]
def QU.c (k : Nat) {ρ : Type} (prev : (List Int)) (time : Int) (bits : Int) (txs : QdG) (K : QdB × Int × Unit → Option ρ) : Option ρ :=
 (Q0a k txs).bind fun t0 => let v1 : (List Int) := t0.1
 let v2 : Int := (((List.length txs) : Nat) : Int)
 (QU.l0 k k (txs, (v2, ((0 : Int), ((((0 : Int), ((List.replicate 32 (0 : Int)), ((List.replicate 32 (0 : Int)), ((0 : Int), ((0 : Int), ((0 : Int), ())))))), ((), ())), ((((1 : Int), (prev, (v1, (time, (bits, ((0 : Int), ())))))), ((), ())), ([], ()))))))).bind fun t5 => (QJ k ((t5.2.1.1.1, (t5.2.1.1.2.1, (t5.2.1.1.2.2.1, (t5.2.1.1.2.2.2.1, (t5.2.1.1.2.2.2.2.1, (t5.2.1.1.2.2.2.2.2.1, ())))))), (t5.2.2.1, ()))).bind fun t6 => let v7 : ByteArray := t6.1
 let v8 : Int := t6.2.1
 bif (v8 != (0 : Int)) then (K ((((0 : Int), ((List.replicate 32 (0 : Int)), ((List.replicate 32 (0 : Int)), ((0 : Int), ((0 : Int), ((0 : Int), ())))))), ([], ())), (v8, ()))) else ((Q08 k (t5.2.1.1.1, (t5.2.1.1.2.1, (t5.2.1.1.2.2.1, (t5.2.1.1.2.2.2.1, (t5.2.1.1.2.2.2.2.1, (t5.2.1.1.2.2.2.2.2.1, ())))))) (4294967296 : Int)).bind fun t9 => bif (!t9.2.1) then (K ((((0 : Int), ((List.replicate 32 (0 : Int)), ((List.replicate 32 (0 : Int)), ((0 : Int), ((0 : Int), ((0 : Int), ())))))), ([], ())), ((111 : Int), ()))) else (K (((t9.1.1, (t9.1.2.1, (t9.1.2.2.1, (t9.1.2.2.2.1, (t9.1.2.2.2.2.1, (t9.1.2.2.2.2.2.1, ())))))), (t5.2.2.1, ())), ((0 : Int), ()))))
def QU (k : Nat) (prev : (List Int)) (time : Int) (bits : Int) (txs : QdG) : Option (QdB × Int × Unit) := QU.c k prev time bits txs some
def QU.tin : List Ty := [QdU, (.int .u32), (.int .u32), QdA]
def QU.tout : List Ty := [Qdz, (.int .i64)]
def QU.sem (k : Nat) : Qr := QX QU.tin QU.tout fun x => QU k x.1 x.2.1 x.2.2.1 x.2.2.2.1
noncomputable def QU.ctx (k : Nat) : Ctx := ⟨Tryz.prog, gam [(114, (Q0a.sem k)), (115, (Q0P.sem k)), (116, (QJ.sem k)), (117, (Q08.sem k))]⟩
theorem QU.gok (k : Nat) : ∀ f, Qm Tryz.prog f ((QU.ctx k).Γ f) := (Q8 (Q0a.sem_ok k) (Q8 (Q0P.sem_ok k) (Q8 (QJ.sem_ok k) (Q8 (Q08.sem_ok k) QK))))
theorem QU.l0.round (k : Nat) : Q1b (QU.ctx k) (Q0y (Func.code Tryz.f90) [1, 1, 1, 0, 1, 0, 0]) (.nil) QU.l0.T [.mask [8, 12, 30, 31, 32], .auto 0] QU.l0.os (QU.l0.r k) := by
 intro ρ x kn ke; kernel_rfl
theorem QU.l0.ok (k : Nat) : StOK 0 Tryz.prog (.loop (Q0y (Func.code Tryz.f90) [1, 1, 1, 0, 1, 0, 0])) (QO QU.l0.T QU.l0.os (QU.l0 k k)) :=
 Q1e (C := QU.ctx k) (QU.gok k) Tryz.mix Q1.nil (by kernel_rfl) (by kernel_rfl) (by kernel_rfl) (QU.l0.round k) k
def QU.ann (k : Nat) : Ann := .node [] none (.nil) (.node [] none (.nil) (.node [] none (.nil) (.node [] none (.node [] none (.nil) (.node [] none (.node [.mask [8, 12, 30, 31, 32], .auto 0, .own (.blk 1 [1]) QdC] (some (QO QU.l0.T QU.l0.os (QU.l0 k k))) .nil .nil) (.nil))) (.nil))))
theorem QU.body (k : Nat) : Q0Y (QU.ctx k) Tryz.f90 (Func.code Tryz.f90) (QU.ann k) QU.tin QU.tout (fun x K => QU.c k x.1 x.2.1 x.2.2.1 x.2.2.2.1 K) := by
 intro ρ x K; kernel_rfl
theorem QU.sem_ok (k : Nat) : Qm Tryz.prog 90 (QU.sem k) :=
 QD (C := QU.ctx k) (QU.gok k) Tryz.mix (c := Func.code Tryz.f90) (ann := QU.ann k) (tin := QU.tin) (tout := QU.tout) (fun x K => QU.c k x.1 x.2.1 x.2.2.1 x.2.2.2.1 K) Tryz.func90 (by kernel_rfl) (by kernel_rfl) (Q1.seq Q1.nil (Q1.seq Q1.nil (Q1.seq Q1.nil (Q1.seq (Q1.seq Q1.nil (Q1.block (Q1.loop (by kernel_rfl) (QU.l0.ok k)))) Q1.nil)))) (QU.body k)
def Q0s.c (k : Nat) {ρ : Type}  (K : QdB × Unit → Option ρ) : Option ρ :=
 (Qq k (0 : Int) (⟨(List.toArray [98, 101, 100, 114, 111, 99, 107])⟩ : ByteArray) (List.set (List.replicate 1 ((0 : Int), (ByteArray.empty, ()))) 0 ((5000 : Int), ((⟨(List.toArray [])⟩ : ByteArray), ())))).bind fun t0 => let v1 : Int := t0.2.1
 let v2 : (List Int) := (List.replicate 32 (0 : Int))
 (QU k v2 (1600000000 : Int) (545259519 : Int) (List.set (List.replicate 1 ((0 : Int), ([], ([], ((0 : Int), ()))))) 0 (t0.1.1, (t0.1.2.1, (t0.1.2.2.1, (t0.1.2.2.2.1, ())))))).bind fun t3 => let v4 : Int := t3.2.1
 K (((t3.1.1.1, (t3.1.1.2.1, (t3.1.1.2.2.1, (t3.1.1.2.2.2.1, (t3.1.1.2.2.2.2.1, (t3.1.1.2.2.2.2.2.1, ())))))), (t3.1.2.1, ())), ())
def Q0s (k : Nat)  : Option (QdB × Unit) := Q0s.c k  some
def Q0s.tin : List Ty := []
def Q0s.tout : List Ty := [Qdz]
def Q0s.sem (k : Nat) : Qr := QX Q0s.tin Q0s.tout fun x => Q0s k 
noncomputable def Q0s.ctx (k : Nat) : Ctx := ⟨Tryz.prog, gam [(89, (Q8u Qq.tin Qq.tout fun x => Qq k x.1 x.2.1 x.2.2.1)), (90, (Q8u QU.tin QU.tout fun x => QU k x.1 x.2.1 x.2.2.1 x.2.2.2.1))]⟩
theorem Q0s.gok (k : Nat) : ∀ f, Qm Tryz.prog f ((Q0s.ctx k).Γ f) := (Q8 (Q8b (Qq.sem_ok k)) (Q8 (Q8b (QU.sem_ok k)) QK))
def Q0s.ann (k : Nat) : Ann := .nil
theorem Q0s.body (k : Nat) : Q0Y (Q0s.ctx k) Tryz.f45 (Func.code Tryz.f45) (Q0s.ann k) Q0s.tin Q0s.tout (fun x K => Q0s.c k  K) := by
 intro ρ x K; kernel_rfl
theorem Q0s.sem_ok (k : Nat) : Qm Tryz.prog 45 (Q0s.sem k) :=
 QD (C := Q0s.ctx k) (Q0s.gok k) Tryz.mix (c := Func.code Tryz.f45) (ann := Q0s.ann k) (tin := Q0s.tin) (tout := Q0s.tout) (fun x K => Q0s.c k  K) Tryz.func45 (by kernel_rfl) (by kernel_rfl) Q1.nil (Q0s.body k)
end Go.Am
